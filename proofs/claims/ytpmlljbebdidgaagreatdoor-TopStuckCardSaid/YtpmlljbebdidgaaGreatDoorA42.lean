/- Lemmas and walks for the claim: Yb, Ye, Yf, Yc, Yg, Yh. -/
import Derived.Test.YtpmlljbebdidgaaGreatDoorA40
import Derived.Test.YtpmlljbebdidgaaGreatDoorA41
import Derived.Test.YtpmlljbebdidgaaGreatDoorA0
import Derived.BigRegion
set_option maxRecDepth 100000
set_option maxHeartbeats 4000000
namespace Go.Proofs.YtpmlljbebdidgaaGreatDoor
structure Small (f : Fr) : Prop where
  v : f.valid = true
  n1 : 1 ≤ f.n
  n2 : f.n ≤ 4096
  d2 : f.d ≤ 4096
theorem Small.d1 {f : Fr} (h : Small f) : 1 ≤ f.d := by have := Fr.pos h.v; omega
theorem Small.fit {f : Fr} (h : Small f) : f.fit := by have := h.n1; have := h.n2; have := h.d1; have := h.d2; exact ⟨by unfold fits; omega, by unfold fits; omega⟩
theorem new_small {x y : Int} (hx : 1 ≤ x) (hx2 : x ≤ 64) (hy : 1 ≤ y) (hy2 : y ≤ 64) : 1 ≤ newN x y ∧ newN x y ≤ 64 ∧ 1 ≤ newD x y ∧ newD x y ≤ 64 := by
  have hd := newD_pos (n := x) (d := y) (by omega)
  have h1 : newN x y = ((x.natAbs / Nat.gcd x.natAbs y.natAbs : Nat) : Int) := by
    unfold newN sgnI;rw [if_neg (by rw [decide_eq_false (by omega), decide_eq_false (by omega)]; simp)]
  have h2 : newD x y = ((y.natAbs / Nat.gcd x.natAbs y.natAbs : Nat) : Int) := rfl
  have g0 : 0 < Nat.gcd x.natAbs y.natAbs := Nat.gcd_pos_of_pos_left _ (by omega)
  have l1 := Nat.div_le_self x.natAbs (Nat.gcd x.natAbs y.natAbs);have l2 := Nat.div_le_self y.natAbs (Nat.gcd x.natAbs y.natAbs);have p1 : 0 < x.natAbs / Nat.gcd x.natAbs y.natAbs := Nat.div_pos (Nat.le_of_dvd (by omega) (Nat.gcd_dvd_left _ _)) g0
  have p2 : 0 < y.natAbs / Nat.gcd x.natAbs y.natAbs := Nat.div_pos (Nat.le_of_dvd (by omega) (Nat.gcd_dvd_right _ _)) g0
  omega
theorem okB_of {x : Int} (h : fits x) : okB x = true := (b_yes h).symm
def rateF (x y : Int) : Fr := ⟨newN x y, newD x y⟩
theorem rate_new {x y : Int} (hx : 1 ≤ x) (hx2 : x ≤ 64) (hy : 1 ≤ y) (hy2 : y ≤ 64) : newR x y = (rateF x y, 0) := by
  obtain ⟨h1, h2, h3, h4⟩ := new_small hx hx2 hy hy2;unfold newR;rw [if_neg (by omega), if_pos]
  · rfl
  · rw [Bool.and_eq_true]
    exact ⟨okB_of (by unfold fits; omega), okB_of (by unfold fits; omega)⟩
theorem rate_valid {x y : Int} (hy : 1 ≤ y) : (rateF x y).valid = true := new_valid (by omega)
theorem rate_worth {x y : Int} (hy : 1 ≤ y) : (rateF x y).n * y = x * (rateF x y).d := new_worth (by omega)
theorem new_bound {n d a b : Int} (hn : 1 ≤ n) (ha : n ≤ a) (hd : 1 ≤ d) (hb : d ≤ b) : 1 ≤ newN n d ∧ newN n d ≤ a ∧ 1 ≤ newD n d ∧ newD n d ≤ b := by
  have h1 : newN n d = ((n.natAbs / Nat.gcd n.natAbs d.natAbs : Nat) : Int) := by
    unfold newN sgnI;rw [if_neg (by rw [decide_eq_false (by omega), decide_eq_false (by omega)]; simp)]
  have h2 : newD n d = ((d.natAbs / Nat.gcd n.natAbs d.natAbs : Nat) : Int) := rfl
  have g0 : 0 < Nat.gcd n.natAbs d.natAbs := Nat.gcd_pos_of_pos_left _ (by omega)
  have l1 := Nat.div_le_self n.natAbs (Nat.gcd n.natAbs d.natAbs);have l2 := Nat.div_le_self d.natAbs (Nat.gcd n.natAbs d.natAbs);have p1 : 0 < n.natAbs / Nat.gcd n.natAbs d.natAbs := Nat.div_pos (Nat.le_of_dvd (by omega) (Nat.gcd_dvd_left _ _)) g0
  have p2 : 0 < d.natAbs / Nat.gcd n.natAbs d.natAbs := Nat.div_pos (Nat.le_of_dvd (by omega) (Nat.gcd_dvd_right _ _)) g0
  omega
theorem mul2_bound {f r : Fr} (hf : Small f) (h1 : 1 ≤ r.n) (h2 : r.n ≤ 64) (h3 : 1 ≤ r.d) (h4 : r.d ≤ 64) : 1 ≤ (mul2 f r).n ∧ (mul2 f r).n ≤ 4096 * 64 ∧ 1 ≤ (mul2 f r).d ∧ (mul2 f r).d ≤ 4096 * 64 := by
  obtain ⟨a1, a2, a3, a4⟩ := new_bound hf.n1 hf.n2 h3 h4;obtain ⟨b1, b2, b3, b4⟩ := new_bound h1 h2 hf.d1 hf.d2;unfold mul2;refine ⟨Int.mul_pos (by omega) (by omega), Int.mul_le_mul a2 b2 (by omega) (by omega), Int.mul_pos (by omega) (by omega), ?_⟩
  show newD f.n r.d * newD r.n f.d ≤ 4096 * 64
  rw [Int.mul_comm];exact Int.mul_le_mul b4 a4 (by omega) (by omega)
def timesF (f : Fr) (x y : Int) : Fr := mul2 f (rateF x y)
theorem one_mul2 {f : Fr} (hf : f.valid = true) : mul2 ⟨1, 1⟩ f = f := by
  have h1 : (⟨1, 1⟩ : Fr).valid = true := by decide
  refine Fr.uniq (mul2_valid h1 hf) hf ?_
  have := mul2_worth h1 hf
  simpa using this
theorem times_mul {f : Fr} {x y : Int} (hf : Small f) (hx : 1 ≤ x) (hx2 : x ≤ 64) (hy : 1 ≤ y) (hy2 : y ≤ 64) : mulR [f, rateF x y] = (timesF f x y, 0) := by
  obtain ⟨h1, h2, h3, h4⟩ := new_small hx hx2 hy hy2;obtain ⟨g1, g2, g3, g4⟩ := mul2_bound (r := rateF x y) hf h1 h2 h3 h4;have ff := hf.fit;unfold mulR;rw [if_pos (by simp [hf.v, rate_valid hy])]
  have o1 := okB_of ff.1;have o2 := okB_of ff.2;have o3 : okB (mul2 f (rateF x y)).n = true := okB_of (by unfold fits; omega)
  have o4 : okB (mul2 f (rateF x y)).d = true := okB_of (by unfold fits; omega)
  simp only [mulGo, one_mul2 hf.v, o1, o2, o3, o4, Bool.and_self, if_true]
  rfl
theorem times_valid {f : Fr} {x y : Int} (hf : Small f) (hy : 1 ≤ y) : (timesF f x y).valid = true := mul2_valid hf.v (rate_valid hy)
theorem times_worth {f : Fr} {x y : Int} (hf : Small f) (hy : 1 ≤ y) : (timesF f x y).n * (f.d * y) = f.n * x * (timesF f x y).d := by
  have h := mul2_worth hf.v (rate_valid (x := x) hy);have h2 := rate_worth (x := x) hy;have hp := Fr.pos (rate_valid (x := x) hy);unfold timesF;generalize hq : rateF x y = q at *;refine Int.eq_of_mul_eq_mul_right (show q.d ≠ 0 by omega) ?_
  calc (mul2 f q).n * (f.d * y) * q.d = (mul2 f q).n * (f.d * q.d) * y := by rw [Int.mul_assoc, Int.mul_assoc, Int.mul_assoc, Int.mul_assoc, Int.mul_comm y]
    _ = f.n * q.n * (mul2 f q).d * y := by rw [h]
    _ = f.n * (mul2 f q).d * (q.n * y) := by rw [Int.mul_assoc f.n, Int.mul_comm q.n, ← Int.mul_assoc f.n, Int.mul_assoc (f.n * (mul2 f q).d)]
    _ = f.n * (mul2 f q).d * (x * q.d) := by rw [h2]
    _ = f.n * x * (mul2 f q).d * q.d := by rw [Int.mul_assoc f.n, Int.mul_left_comm (mul2 f q).d, ← Int.mul_assoc x, ← Int.mul_assoc f.n, ← Int.mul_assoc f.n]
def shareF (a h : Nat) : Fr := rateF (a : Int) (h : Int)
theorem share_valid {a h : Nat} (hh : 1 ≤ h) : (shareF a h).valid = true := rate_valid (by omega)
theorem share_worth {a h : Nat} (hh : 1 ≤ h) : (shareF a h).n * (h : Int) = (a : Int) * (shareF a h).d := rate_worth (by omega)
theorem share_self {h : Nat} (hh : 1 ≤ h) : shareF h h = ⟨1, 1⟩ := by
  refine Fr.uniq (share_valid hh) (by decide) ?_
  have := share_worth (a := h) hh
  show (shareF h h).n * 1 = 1 * (shareF h h).d
  rw [Int.mul_one, Int.one_mul];rw [Int.mul_comm] at this;exact Int.eq_of_mul_eq_mul_left (by omega) this
theorem share_step {a b h : Nat} {g k : Int} (hh : 1 ≤ h) (hs : Small (shareF a h)) (hk : 1 ≤ k) (he : g * (a : Int) = k * (b : Int)) : timesF (shareF a h) g k = shareF b h := by
  have h1 := times_worth (x := g) hs hk;have h2 := share_worth (a := a) hh;have h3 := share_worth (a := b) hh;have hd := hs.d1;refine Fr.uniq (times_valid hs hk) (share_valid hh) ?_;generalize timesF (shareF a h) g k = T at *;generalize shareF b h = R at *;generalize shareF a h = F at *;have hpos : F.d * k * (h : Int) ≠ 0 := by
    have := Int.mul_pos (Int.mul_pos (show 0 < F.d by omega) (show 0 < k by omega)) (show (0 : Int) < h by omega)
    omega
  refine Int.eq_of_mul_eq_mul_right hpos ?_
  calc T.n * R.d * (F.d * k * (h : Int)) = T.n * (F.d * k) * (R.d * (h : Int)) := by ac_rfl
    _ = F.n * g * T.d * (R.d * (h : Int)) := by rw [h1]
    _ = F.n * (h : Int) * (g * T.d * R.d) := by ac_rfl
    _ = (a : Int) * F.d * (g * T.d * R.d) := by rw [h2]
    _ = g * (a : Int) * (F.d * T.d * R.d) := by ac_rfl
    _ = k * (b : Int) * (F.d * T.d * R.d) := by rw [he]
    _ = (b : Int) * R.d * (k * F.d * T.d) := by ac_rfl
    _ = R.n * (h : Int) * (k * F.d * T.d) := by rw [h3]
    _ = R.n * T.d * (F.d * k * (h : Int)) := by ac_rfl
theorem share_dvd {a h : Nat} (ha : 1 ≤ a) (hh : 1 ≤ h) : 1 ≤ (shareF a h).n ∧ (shareF a h).n ≤ (a : Int) ∧ 1 ≤ (shareF a h).d ∧ (shareF a h).d ∣ (h : Int) ∧ (shareF a h).d ≤ (h : Int) := by
  obtain ⟨h1, h2, h3, h4⟩ := new_bound (n := (a : Int)) (d := (h : Int)) (a := a) (b := h) (by omega) (Int.le_refl _) (by omega) (Int.le_refl _)
  refine ⟨h1, h2, h3, ?_, h4⟩;show newD (a : Int) (h : Int) ∣ (h : Int)
  unfold newD;rw [show ((h : Int)).natAbs = h from rfl]
  exact Int.ofNat_dvd.2 (Nat.div_dvd_of_dvd (Nat.gcd_dvd_right _ _))
theorem share_small {a h : Nat} (ha : 1 ≤ a) (hh : 1 ≤ h) (ha2 : a ≤ 4096) (hh2 : h ≤ 4096) : Small (shareF a h) := by
  obtain ⟨h1, h2, h3, -, h5⟩ := share_dvd ha hh;exact ⟨share_valid hh, h1, by omega, by omega⟩
theorem share_far {a b h : Nat} {g k : Int} (hh : 1 ≤ h) (hs : Small (shareF a h)) (hk : 1 ≤ k) : timesF (shareF a h) g k = shareF b h ↔ g * (a : Int) = k * (b : Int) := by
  constructor
  · intro e
    have h1 := times_worth (x := g) hs hk;have h2 := share_worth (a := a) hh;have h3 := share_worth (a := b) hh;have hd := hs.d1;have hv := Fr.pos (share_valid (a := b) hh);rw [e] at h1;generalize shareF b h = R at *;generalize shareF a h = F at *;have hpos : R.d * F.d ≠ 0 := by have := Int.mul_pos hv (show 0 < F.d by omega); omega
    refine (Int.eq_of_mul_eq_mul_right hpos ?_).symm
    calc k * (b : Int) * (R.d * F.d) = (b : Int) * R.d * (k * F.d) := by ac_rfl
      _ = R.n * (h : Int) * (k * F.d) := by rw [h3]
      _ = R.n * (F.d * k) * (h : Int) := by ac_rfl
      _ = F.n * g * R.d * (h : Int) := by rw [h1]
      _ = F.n * (h : Int) * (g * R.d) := by ac_rfl
      _ = (a : Int) * F.d * (g * R.d) := by rw [h2]
      _ = g * (a : Int) * (R.d * F.d) := by ac_rfl
  · exact share_step hh hs hk
def denN(a h:Nat):Nat:=(shareF a h).d.natAbs
def numN(a h:Nat):Nat:=(shareF a h).n.natAbs
theorem den_num{a h:Nat}(ha:1≤a)(hh:1≤h):((denN a h:Nat):Int)=(shareF a h).d∧((numN a h:Nat):Int)=(shareF a h).n∧1≤denN a h∧1≤numN a h∧numN a h*h=a*denN a h∧denN a h∣h:=by
 obtain⟨h1,h2,h3,h4,h5⟩:=share_dvd ha hh;have e1:((denN a h:Nat):Int)=(shareF a h).d:=by unfold denN;omega
 have e2:((numN a h:Nat):Int)=(shareF a h).n:=by unfold numN;omega
 refine⟨e1,e2,by omega,by omega,?_,?_⟩
 ·have:=share_worth (a:=a) hh
  rw[←e1,←e2]at this
  exact_mod_cast this
 ·rw[←e1]at h4;exact Int.ofNat_dvd.1 h4
theorem whole_share{a h K:Nat}(ha:1≤a)(hh:1≤h)(hd:denN a h∣K):K/denN a h*numN a h*h=K*a:=by
 obtain⟨-,-,h3,-,h5,-⟩:=den_num ha hh;obtain⟨c,rfl⟩:=hd;rw[Nat.mul_div_cancel_left _ (by omega),Nat.mul_assoc,h5]
 ac_rfl
theorem scale_law{G K:Nat→Nat}{T:List Edg}{R P:Nat→Nat}(hI:RInv G K T R P){h k:Nat}(hd:∀v,P v=P h→denN (R v) (R h)∣k)(hk:k∣R h):k=R h:=by
 have hp:=hI.pos;have hS:Solves G K T (fun v=>if P v=P h then k/denN (R v) (R h)*numN (R v) (R h)else R v):=by
  intro e he;have hc:P e.f=P e.t:=(hI.cls _ _).2 ⟨[(e.i,false)],e.t,⟨e,he,rfl,by simp⟩,rfl⟩
  have hev:=hI.ev e he;simp only;rw[hc];by_cases hb:P e.t=P h
  ·rw[if_pos hb,if_pos hb];have w1:=whole_share (K:=k) (hp e.f) (hp h) (hd e.f (hc.trans hb));have w2:=whole_share (K:=k) (hp e.t) (hp h) (hd e.t hb);refine Nat.eq_of_mul_eq_mul_right (hp h) ?_;rw[Nat.mul_assoc,w1,Nat.mul_assoc,w2,Nat.mul_left_comm,hev,Nat.mul_left_comm]
  ·rw[if_neg hb,if_neg hb];exact hev
 obtain⟨m,hm⟩:=hI.least _ hS h;have h1:=hm h rfl;simp only at h1;rw[if_pos trivial]at h1;have w:=whole_share (K:=k) (hp h) (hp h) (hd h rfl);have hkk:k/denN (R h) (R h)*numN (R h) (R h)=k:=Nat.eq_of_mul_eq_mul_right (hp h) w;rw[hkk]at h1;obtain⟨c,hc⟩:=hk;have hpos:=hp h;have hk0:0<k:=by
  rcases Nat.eq_zero_or_pos k with h0|h0
  ·rw[h0,Nat.zero_mul]at hc;omega
  ·exact h0
 have:R h≤k:=Nat.le_of_dvd hk0 ⟨m,by rw[h1,Nat.mul_comm]⟩
 have:k≤R h:=Nat.le_of_dvd hpos ⟨c,hc⟩
 omega
theorem scale_count{a h:Nat}(ha:1≤a)(hh:1≤h):h/denN a h*numN a h=a:=by
 obtain⟨-,-,-,-,-,h6⟩:=den_num ha hh
 have:=whole_share (K:=h) ha hh h6
 rw[Nat.mul_comm h a]at this;exact Nat.eq_of_mul_eq_mul_right hh this
end Go.Proofs.YtpmlljbebdidgaaGreatDoor
namespace Go.Proofs.YtpmlljbebdidgaaGreatDoor
open Go.RowKit
def okT(f:Fr):Bool:=decide (f.n≤4096)&&decide (f.d≤4096)
theorem btimes_gen(f t:Fr)(k:Int)(x y:Int)(w:World)(hf:f.fit)(hx:1≤x)(hx2:x≤64)(hy:1≤y)(hy2:y≤64)(hm:mulR [f,rateF x y]=(t,k)):
  Calls Tryz.prog 28 #[.agg #[.int .i64 f.n, .int .i64 f.d], .int .i64 x, .int .i64 y] w fun e w'=>e= .returned (.tuple #[.agg #[.int .i64 t.n, .int .i64 t.d], .bool (decide (k=0)&&okT t)])∧Below w.heap.size w w':=by
 have HN:=Lh (fun w=>new_any x y w (by unfold fits;omega) (by unfold fits;omega))
 rw[rate_new hx hx2 hy hy2]at HN;have HM:=Lh (fun(A:Option Addr) (c:Nat) (w:World) (hr:Rd w w.heap.size A (cellsF [f,rateF x y]))=>fmul_any [f,rateF x y] A 2 c w rfl (fun a ha=>by
  simp at ha
  rcases ha with rfl|rfl
  ·exact hf
  ·obtain⟨h1,h2,h3,h4⟩:=new_small hx hx2 hy hy2;exact⟨by show fits (newN x y);unfold fits;omega,by show fits (newD x y);unfold fits;omega⟩) hr (by unfold maxLen;omega))
 rw[hm]at HM;simp only at HN HM;obtain⟨r,hr⟩:∃r,rateF x y=r:=⟨_,rfl⟩;rw[hr]at HN HM;obtain⟨fn,fd⟩:=f;obtain⟨rn,rd⟩:=r;obtain⟨tn,td⟩:=t;simp only at HN HM⊢;obtain⟨res,hre⟩:∃r,(decide (k=0)&&okT ⟨tn,td⟩)=r:=⟨_,rfl⟩;rw[hre];have HRE:=Lh hre;clear hre hr hm hf hx hx2 hy hy2;obtain⟨W,hW⟩:∃W,(w.alloc (.cells #[.int .i64 fn, .int .i64 fd] 87)).alloc (.cells #[.int .i64 0, .int .i64 0] 87)=W:=⟨_,rfl⟩;have bW:Below w.heap.size w W:=by subst hW;exact((Below.refl _ _).alloc lR_ _).alloc (by simp) _
 have k0:Blk W w.heap.size 87 #[.int .i64 fn, .int .i64 fd]:=by subst hW;exact(Blk.new w _ rfl _ _).alloc _
 have k1:Blk W (w.heap.size+1) 87 #[.int .i64 0, .int .i64 0]:=by subst hW;exact Blk.new _ _ (by simp) _ _
 have K0:=Lh k0;have K1:=Lh k1;clear k0 k1
 go_enter Tryz.func28, Tryz.ntmps28
 go_wp2_with fail
 try rw[hW]
 refine(HN.out W).mono ?_;rintro e w2 ⟨rfl,hb2⟩;have b2:=bW.trans (hb2.mono bW.size);have k0:=(K0.out.below hb2 K0.out.lt);have k1:=(K1.out.below hb2 K1.out.lt);clear hW bW hb2 K0 K1;have HW:=Lh b2;have h2lt:=k1.lt;obtain⟨W3,hW3⟩:∃W,w2.alloc (.cells #[.int .i64 rn, .int .i64 rd] 87)=W:=⟨_,rfl⟩;have n3:=bA_ w2 (.cells #[.int .i64 rn, .int .i64 rd] 87);have k8:=bN_ n3;rw[hW3]at n3 k8;have b3:=b2.trans (n3.mono b2.size);have k0:=k0.below n3 k0.lt;have k1:=k1.below n3 h2lt;obtain⟨g8,hg8⟩:∃g,w2.heap.size=g:=⟨_,rfl⟩;rw[hg8]at k8;have f0:=k0.cell 0;have f1:=k0.cell 1;have f2:=k8.cell 0;have f3:=k8.cell 1;simp at f0 f1 f2 f3;have K1:=Lh k1;have n4:=bA_ W3 (.cells #[.int .i64 fn, .int .i64 fd, .int .i64 rn, .int .i64 rd] 87);have hm:=HM.out (some ⟨W3.heap.size,0,none⟩) 2 (W3.alloc (.cells #[.int .i64 fn, .int .i64 fd, .int .i64 rn, .int .i64 rd] 87)) ((rd_alloc W3 _ rfl 87 (cellsF [⟨fn,fd⟩,⟨rn,rd⟩])).more (by simp))
 have HM2:=Lh hm;have b4:=Lh (b3.trans (n4.mono b3.size));have N4:=Lh n4;clear hm n3 n4 k0 k1 k8 b2 b3 HM HN HW
 go_wp2_with fail
 try rw[hW3,hg8]
 go_wp2_with fail;refine HM2.out.mono ?_
 rintro e w5 ⟨rfl,hb5⟩;have b5:=b4.out.trans (hb5.mono b4.out.size);have k1:=(K1.out.below N4.out K1.out.lt).below hb5 (by have:=K1.out.lt;simp;omega)
 clear hW3 hg8 f0 f1 f2 f3 hb5 b4 N4 K1 HM2;have hlt5:=k1.lt;have n6:=bA_ w5 (.cells #[.int .i64 tn, .int .i64 td] 87);have k10:=bN_ n6;have b6:=b5.trans (n6.mono b5.size);have k1:=k1.below n6 k1.lt;obtain⟨W6,hW6⟩:=wN_ n6;obtain⟨g10,hg10⟩:∃g,w5.heap.size=g:=⟨_,rfl⟩;obtain⟨g6,hg6⟩:∃g,w.heap.size+1=g:=⟨_,rfl⟩;rw[hW6]at b6 k1 k10;rw[hg10]at k10;rw[hg6]at k1;have c0:=k10.cell 0;have c1:=k10.cell 1;have d0:=k1.cell 0;have d1:=k1.cell 1;have z0:=k1.frozen 0;have z1:=k1.frozen 1;simp at c0 c1 d0 d1;have kn:=((k1.set 0 (.int .i64 tn)).set 1 (.int .i64 td));have bn:=((b6.setCell (p:=⟨g6,0,none⟩) (by show w.heap.size≤g6;omega) (.int .i64 tn)).setCell (p:=⟨g6,1,none⟩) (by show w.heap.size≤g6;omega) (.int .i64 td))
 have hne:g10≠g6:=by omega
 have kf:=(k10.far (p:=⟨g6,0,none⟩) hne (.int .i64 tn)).far (p:=⟨g6,1,none⟩) hne (.int .i64 td);have e0:=kf.cell 0;have e1:=kf.cell 1;have r0:=kn.cell 0;have r1:=kn.cell 1;simp at e0 e1 r0 r1;have KN:=Lh kn;have BN:=Lh bn;rw[hg6];clear hg6 kn bn k1 k10 b5 b6 n6 h2lt kf hne hlt5;by_cases hk:k=0
 case neg=>
  have qk:(k==0)=false:=by simp[hk]
  obtain rfl:res=false:=by rw[←HRE.out,decide_eq_false hk];rfl
  clear HRE hk
  go_wp2_with fail
  try rw[hW6]
  try rw[hg10]
  go_region
  go_wp2_with fail;exact bodyPost_ret (v:= .tuple #[.agg #[.int .i64 tn, .int .i64 td], .bool false]) (by simp[results, Tryz.results28,go_sem,r0,r1]) rfl ⟨rfl,BN.out.drew⟩
 subst hk;by_cases h1:tn≤4096
 ·have q1:decide (tn≤4096)=true:=decide_eq_true h1
  by_cases h2:td≤4096
  ·have q2:decide (td≤4096)=true:=decide_eq_true h2
   obtain rfl:res=true:=by rw[←HRE.out];unfold okT;simp only;rw[q1,q2];rfl
   clear HRE h1
   go_wp2_with fail
   try rw[hW6]
   try rw[hg10]
   go_region
   go_wp2_with fail;exact bodyPost_ret (v:= .tuple #[.agg #[.int .i64 tn, .int .i64 td], .bool true]) (by simp[results, Tryz.results28,go_sem,r0,r1]) rfl ⟨rfl,BN.out.drew⟩
  ·have q2:decide (td≤4096)=false:=decide_eq_false h2
   obtain rfl:res=false:=by rw[←HRE.out];unfold okT;simp only;rw[q1,q2];rfl
   clear HRE h1
   go_wp2_with fail
   try rw[hW6]
   try rw[hg10]
   go_region
   go_wp2_with fail;exact bodyPost_ret (v:= .tuple #[.agg #[.int .i64 tn, .int .i64 td], .bool false]) (by simp[results, Tryz.results28,go_sem,r0,r1]) rfl ⟨rfl,BN.out.drew⟩
 ·have q1:decide (tn≤4096)=false:=decide_eq_false h1
  by_cases h2:True
  ·clear h2;obtain rfl:res=false:=by rw[←HRE.out];unfold okT;simp only;rw[q1];rfl
   clear HRE h1
   go_wp2_with fail
   try rw[hW6]
   try rw[hg10]
   go_region
   go_wp2_with fail;exact bodyPost_ret (v:= .tuple #[.agg #[.int .i64 tn, .int .i64 td], .bool false]) (by simp[results, Tryz.results28,go_sem,r0,r1]) rfl ⟨rfl,BN.out.drew⟩
  ·exact absurd trivial h2
theorem btimes_any(f:Fr)(x y:Int)(w:World)(hf:Small f)(hx:1≤x)(hx2:x≤64)(hy:1≤y)(hy2:y≤64):
  Calls Tryz.prog 28 #[.agg #[.int .i64 f.n, .int .i64 f.d], .int .i64 x, .int .i64 y] w fun e w'=>e= .returned (.tuple #[.agg #[.int .i64 (timesF f x y).n, .int .i64 (timesF f x y).d], .bool (okT (timesF f x y))])∧Below w.heap.size w w':=
 btimes_gen f (timesF f x y) 0 x y w hf.fit hx hx2 hy hy2 (times_mul hf hx hx2 hy hy2)
def ShareOk(f:Fr):Prop:=f.fit∧(f=⟨0,0⟩∨(f.valid=true∧1≤f.n))
theorem mul_share{f:Fr}{x y:Int}(hf:f.fit)(hv:f.valid=true)(hn:1≤f.n)(hx:1≤x)(hx2:x≤64)(hy:1≤y)(hy2:y≤64):∃t k,mulR [f,rateF x y]=(t,k)∧ShareOk t∧(Small f→t=timesF f x y∧k=0):=by
 by_cases hs:Small f
 ·refine⟨_,_,times_mul hs hx hx2 hy hy2,?_,fun _=>⟨rfl,rfl⟩⟩
  obtain⟨h1,h2,h3,h4⟩:=new_small hx hx2 hy hy2;obtain⟨g1,g2,g3,g4⟩:=mul2_bound (r:=rateF x y) hs h1 h2 h3 h4;exact⟨⟨by show fits (timesF f x y).n;unfold timesF fits;omega,by show fits (timesF f x y).d;unfold timesF fits;omega⟩, .inr ⟨times_valid hs hy,g1⟩⟩
 ·have hr:=rate_valid (x:=x) hy;obtain⟨h1,h2,h3,h4⟩:=new_small hx hx2 hy hy2;have hq:(rateF x y).n=newN x y:=rfl;unfold mulR;rw[if_pos (by simp[hv,hr])]
  have o1:=okB_of hf.1;have o2:=okB_of hf.2;simp only[mulGo,one_mul2 hv,o1,o2,Bool.and_self,if_true];by_cases hb:(okB (mul2 f (rateF x y)).n&&okB (mul2 f (rateF x y)).d)=true
  ·rw[if_pos hb];rw[Bool.and_eq_true]at hb;refine⟨_,_,rfl,⟨⟨okB_iff.1 hb.1,okB_iff.1 hb.2⟩, .inr ⟨mul2_valid hv hr,?_⟩⟩,fun h=>absurd h hs⟩
   have hw:=mul2_worth hv hr;have hp:=Fr.pos (mul2_valid hv hr);have hp1:=Fr.pos hv;have hp2:=Fr.pos hr;generalize mul2 f (rateF x y)=m at*;have a1:0<f.n*(rateF x y).n*m.d:=Int.mul_pos (Int.mul_pos (by omega) (by omega)) hp
   rw[←hw]at a1;have a2:0<f.d*(rateF x y).d:=Int.mul_pos hp1 hp2;by_cases h:0<m.n
   ·omega
   ·have h:=Int.not_lt.1 h
    have:=Int.mul_nonpos_of_nonpos_of_nonneg h (Int.le_of_lt a2)
    omega
  ·rw[if_neg hb];exact⟨_,_,rfl,⟨⟨by unfold fits;simp,by unfold fits;simp⟩, .inl rfl⟩,fun h=>absurd h hs⟩
def unsetF:Fr:=⟨0,0⟩
theorem Rd.frAt{w:World}{B:Nat}{b off:Nat}{fs:List Fr}{k:Nat}{f:Fr}(h:Rd w B (some ⟨b,off,none⟩) (cellsF fs))(hx:∀a∈fs,a.fit)(hk:fs[k]?=some f):w.cell? ⟨b,off+k*2,none⟩=some (.int .i64 f.n)∧w.cell? ⟨b,off+k*2+1,none⟩=some (.int .i64 f.d)∧b<B∧f.fit:=by
 have hl:=(List.getElem?_eq_some_iff.1 hk).1;obtain⟨b',off',g,hA,hb,hf,c0,c1,-,hg⟩:=h.fr hx hl;obtain⟨rfl,rfl⟩:b=b'∧off=off':=by injection hA with h;injection h with h h';exact⟨h,h'⟩
 obtain rfl:f=g:=by have:=hg.out;rw[hk]at this;exact Option.some.inj this
 exact⟨c0,c1,hb,hf⟩
theorem spread1_near(from_ to_:Nat)(g k:Int)(fs:List Fr)(n Bs Bf gS B:Nat)(w:World)(hs:w.cell? ⟨Bs,0,none⟩=some (.slice (some ⟨gS,0,none⟩) n n))(hx:∀a∈fs,a.fit)(hr:Rd w B (some ⟨gS,0,none⟩) (cellsF fs))(hf:from_<n)(h0:fs[from_]?=some unsetF):
  Calls Tryz.prog 50 #[.int .i64 (from_:Nat), .int .i64 (to_:Nat), .int .i64 g, .int .i64 k, .pointer (some ⟨Bs,0,none⟩), .pointer (some ⟨Bf,0,none⟩)] w fun e w'=>e= .returned (.bool false)∧w=w':=by
 obtain⟨c0,c1,hb,-⟩:=hr.frAt hx h0;rw[Nat.zero_add]at c0 c1;have e0:unsetF.n=0:=rfl;have e1:unsetF.d=0:=rfl;rw[e0]at c0;rw[e1]at c1;have i1:(0:Int)≤(from_:Int):=by omega
 have i2:(from_:Int)<(n:Int):=by omega
 clear e0 e1 hr hx h0
 go_enter Tryz.func50, Tryz.ntmps50
 go_wp2_with fail
 go_ret;exact⟨rfl,rfl⟩
theorem spread1_far(from_ to_:Nat)(g k:Int)(fs:List Fr)(f t:Fr)(n Bs Bf gS B:Nat)(w:World)(hs:w.cell? ⟨Bs,0,none⟩=some (.slice (some ⟨gS,0,none⟩) n n))(hx:∀a∈fs,a.fit)(hr:Rd w B (some ⟨gS,0,none⟩) (cellsF fs))(hf:from_<n)(ht:to_<n)
  (h0:fs[from_]?=some f) (h1:fs[to_]?=some t) (hfn:1≤f.n) (htn:1≤t.n):
  Calls Tryz.prog 50 #[.int .i64 (from_:Nat), .int .i64 (to_:Nat), .int .i64 g, .int .i64 k, .pointer (some ⟨Bs,0,none⟩), .pointer (some ⟨Bf,0,none⟩)] w fun e w'=>e= .returned (.bool false)∧w=w':=by
 obtain⟨c0,c1,hb,-⟩:=hr.frAt hx h0;obtain⟨d0,d1,-,-⟩:=hr.frAt hx h1;rw[Nat.zero_add]at c0 c1 d0 d1;obtain⟨fn,fd⟩:=f;obtain⟨tn,td⟩:=t;simp only at c0 c1 d0 d1 hfn htn;have q1:(fn==0)=false:=by simp;omega
 have q2:(tn==0)=false:=by simp;omega
 have n1:¬fn=0:=by omega
 have n2:¬tn=0:=by omega
 have i1:(0:Int)≤(from_:Int):=by omega
 have i2:(from_:Int)<(n:Int):=by omega
 have i3:(0:Int)≤(to_:Int):=by omega
 have i4:(to_:Int)<(n:Int):=by omega
 clear hr hx h0 h1
 go_enter Tryz.func50, Tryz.ntmps50
 go_wp2_with fail
 go_ret;exact⟨rfl,rfl⟩
structure SpSt(w0 w:World)(gS Bs Bf n:Nat)(fs:List Fr)(fit:Bool):Prop where
 row:w.ownsRow gS 87 2 (.slice (some ⟨gS,0,none⟩) n n) n (cellsF fs)
 ks:Blk w Bs 82 #[.slice (some ⟨gS,0,none⟩) n n]
 kf:Blk w Bf 4 #[.bool fit]
 bw:Below w0.heap.size w0 w
 len:fs.length=n
 ok:∀f∈fs,ShareOk f
 s0:w0.heap.size≤gS
 s1:gS<Bs
 s2:Bs<Bf
theorem SpSt.rd{w0 w:World}{gS Bs Bf n:Nat}{fs:List Fr}{fit:Bool}(h:SpSt w0 w gS Bs Bf n fs fit):Rd w w.heap.size (some ⟨gS,0,none⟩) (cellsF fs):=rd_of_own h.row
theorem SpSt.fits{w0 w:World}{gS Bs Bf n:Nat}{fs:List Fr}{fit:Bool}(h:SpSt w0 w gS Bs Bf n fs fit):∀f∈fs,f.fit:=fun f hf=>(h.ok f hf).1
theorem SpSt.below{w0 w w':World}{gS Bs Bf n:Nat}{fs:List Fr}{fit:Bool}(h:SpSt w0 w gS Bs Bf n fs fit)(hb:Below w.heap.size w w'):SpSt w0 w' gS Bs Bf n fs fit:=
 ⟨own_below h.row hb,h.ks.below hb h.ks.lt,h.kf.below hb h.kf.lt,h.bw.trans (hb.mono h.bw.size),h.len,h.ok,h.s0,h.s1,h.s2⟩
theorem SpSt.alloc{w0 w:World}{gS Bs Bf n:Nat}{fs:List Fr}{fit:Bool}(h:SpSt w0 w gS Bs Bf n fs fit)(o:Obj):SpSt w0 (w.alloc o) gS Bs Bf n fs fit:=h.below ((Below.refl _ _).alloc lR_ o)
theorem SpSt.drewN{w0 w:World}{gS Bs Bf n:Nat}{fs:List Fr}{fit:Bool}(h:SpSt w0 w gS Bs Bf n fs fit)(d:Nat):SpSt w0 (w.drewN d) gS Bs Bf n fs fit:=h.below (Below.drewN (Below.refl _ _) d)
theorem cellsF_set(fs:List Fr)(k:Nat)(t:Fr):((cellsF fs).set (k*2) (.int .i64 t.n)).set (k*2+1) (.int .i64 t.d)=cellsF (fs.set k t):=by
 induction fs generalizing k with
 |nil=>simp[cellsF]
 |cons f fs ih=>
  cases k with
  |zero=>simp[cellsF_cons,Fr.cells]
  |succ k=>
   rw[List.set_cons_succ,cellsF_cons,cellsF_cons,←ih k];simp[Fr.cells,Nat.succ_mul]
theorem SpSt.store{w0 w:World}{gS Bs Bf n:Nat}{fs:List Fr}{fit:Bool}(h:SpSt w0 w gS Bs Bf n fs fit)(k:Nat)(t:Fr)(ht:ShareOk t)(b:Bool):
  SpSt w0 (((w.setCell ⟨gS,k*2,none⟩ (.int .i64 t.n)).setCell ⟨gS,k*2+1,none⟩ (.int .i64 t.d)).setCell ⟨Bf,0,none⟩ (.bool b)) gS Bs Bf n (fs.set k t) b:=by
 have s0:=h.s0;have s1:=h.s1;have s2:=h.s2;have o1:=(h.row.stored (k*2) (.int .i64 t.n)).1;have o2:=(o1.stored (k*2+1) (.int .i64 t.d)).1;rw[cellsF_set]at o2;refine⟨ownsRow_setCell_other o2 (by simp[Value.ownBlock];omega) _,((h.ks.far (by simp;omega) _).far (by simp;omega) _).far (by simp;omega) _,?_,((h.bw.setCell (by simp;omega) _).setCell (by simp;omega) _).setCell (by simp;omega) _,by simp[h.len],fun f hf=>?_,s0,s1,s2⟩
 ·exact((h.kf.far (by simp;omega) _).far (by simp;omega) _).set 0 (.bool b)
 ·rcases List.mem_or_eq_of_mem_set hf with hf|rfl
  ·exact h.ok f hf
  ·exact ht
def OnlyS(gS Bf:Nat)(w w':World):Prop:=∀g,g<w.heap.size→g≠gS→g≠Bf→w'.heap[g]?=w.heap[g]?
theorem OnlyS.blk{gS Bf:Nat}{w w':World}(h:OnlyS gS Bf w w'){g:Nat}{t:TypeId}{cs:Array Value}(hk:Blk w g t cs)(h1:g≠gS)(h2:g≠Bf):Blk w' g t cs:=(h g hk.lt h1 h2).trans hk
theorem spread1_go(from_ to_:Nat)(g k:Int)(fs:List Fr)(f t:Fr)(kk:Int)(fit:Bool)(n Bs Bf gS:Nat)(w0 w:World)(H:SpSt w0 w gS Bs Bf n fs fit)(hf:from_<n)(ht:to_<n)
  (h0:fs[from_]?=some f) (h1:fs[to_]?=some unsetF) (hfn:1≤f.n) (hg:1≤g) (hg2:g≤64) (hk:1≤k) (hk2:k≤64) (hm:mulR [f,rateF g k]=(t,kk)) (hto:ShareOk t):
  Calls Tryz.prog 50 #[.int .i64 (from_:Nat), .int .i64 (to_:Nat), .int .i64 g, .int .i64 k, .pointer (some ⟨Bs,0,none⟩), .pointer (some ⟨Bf,0,none⟩)] w fun e w'=>e= .returned (.bool (decide (kk=0)&&okT t))∧SpSt w0 w' gS Bs Bf n (fs.set to_ t) (fit&&(decide (kk=0)&&okT t))∧OnlyS gS Bf w w':=by
 obtain⟨c0,c1,hb,ff⟩:=H.rd.frAt H.fits h0;obtain⟨d0,d1,-,-⟩:=H.rd.frAt H.fits h1;rw[Nat.zero_add]at c0 c1 d0 d1;have e0:unsetF.n=0:=rfl;have e1:unsetF.d=0:=rfl;rw[e0]at d0;rw[e1]at d1;have HT:=Lh (fun w=>btimes_gen f t kk g k w ff hg hg2 hk hk2 hm)
 have hs:=H.ks.cell 0;simp at hs;have HTO:=Lh hto;obtain⟨res,hres⟩:∃b,(decide (kk=0)&&okT t)=b:=⟨_,rfl⟩;rw[hres]at HT⊢;obtain⟨fn,fd⟩:=f;obtain⟨tn,td⟩:=t;simp only at c0 c1 hfn HT;have q1:(fn==0)=false:=by simp;omega
 have i1:(0:Int)≤(from_:Int):=by omega
 have i2:(from_:Int)<(n:Int):=by omega
 have i3:(0:Int)≤(to_:Int):=by omega
 have i4:(to_:Int)<(n:Int):=by omega
 have HS:=Lh H;have H1:=Lh h1;clear e0 e1 h0 h1 hg hg2 hk hk2 hm hto hres H ff
 go_enter Tryz.func50, Tryz.ntmps50
 go_wp2_with fail;refine(HT.out w).mono ?_
 rintro e w2 ⟨rfl,hb2⟩;have H2:=HS.out.below hb2;clear HT HS c0 c1 d0 d1 hs;have H3:=H2.alloc (.cells #[.int .i64 tn, .int .i64 td] 87);have n3:=Blk.new w2 _ rfl 87 #[.int .i64 tn, .int .i64 td];obtain⟨W3,hW3⟩:∃W,w2.alloc (.cells #[.int .i64 tn, .int .i64 td] 87)=W:=⟨_,rfl⟩;rw[hW3]at H3 n3;obtain⟨g3,hg3⟩:∃g,w2.heap.size=g:=⟨_,rfl⟩;rw[hg3]at n3;have a0:=n3.cell 0;have a1:=n3.cell 1;have a2:=H3.ks.cell 0;have a3:=H3.kf.cell 0;obtain⟨b0,b1,-,-⟩:=H3.rd.frAt H3.fits H1.out;rw[Nat.zero_add]at b0 b1;have z1:=H3.row.frozenAt (to_*2);have z3:=H3.row.frozenAt (to_*2+1);have hne:gS≠Bf:=by have:=H3.s1;have:=H3.s2;omega
 have hne':Bf≠gS:=hne.symm
 have z2:=H3.kf.frozen 0;simp at a0 a1 a2 a3;have HN:=Lh (H3.store to_ ⟨tn,td⟩ HTO.out (fit&&res));have HO:=Lh (show OnlyS gS Bf w (((W3.setCell ⟨gS,to_*2,none⟩ (.int .i64 tn)).setCell ⟨gS,to_*2+1,none⟩ (.int .i64 td)).setCell ⟨Bf,0,none⟩ (.bool (fit&&res)))from fun x hx h1 h2=>by
  rw[Below.heap_setCell _ _ _ _ h2,Below.heap_setCell _ _ _ _ h1,Below.heap_setCell _ _ _ _ h1,←hW3,Below.heap_alloc _ _ _ (Nat.lt_of_lt_of_le hx hb2.size)];exact hb2.block x hx)
 clear H3 n3 H2 HTO H1 hb2;cases fit
 ·go_wp2_with fail
  try rw[hW3]
  try rw[hg3]
  go_region
  go_wp2_with fail
  go_ret;exact⟨rfl,HN.out.drewN 1,HO.out⟩
 ·go_wp2_with fail
  try rw[hW3]
  try rw[hg3]
  go_region
  go_wp2_with fail
  go_ret;exact⟨rfl,HN.out.drewN 1,HO.out⟩
def StepR(fs:List Fr)(fit:Bool)(from_ to_:Nat)(g k:Int)(fs':List Fr)(fit' b:Bool):Prop:=
 (b=false∧fs'=fs∧fit'=fit∧(fs[from_]?=some unsetF∨∃t,fs[to_]?=some t∧1≤t.n))∨
 (∃f t kk,fs[from_]?=some f∧f.valid=true∧1≤f.n∧fs[to_]?=some unsetF∧ShareOk t∧mulR [f,rateF g k]=(t,kk)∧b=(decide (kk=0)&&okT t)∧fs'=fs.set to_ t∧fit'=(fit&&b))
theorem spread1_any(from_ to_:Nat)(g k:Int)(fs:List Fr)(fit:Bool)(n Bs Bf gS:Nat)(w0 w:World)(H:SpSt w0 w gS Bs Bf n fs fit)(hf:from_<n)(ht:to_<n)(hg:1≤g)(hg2:g≤64)(hk:1≤k)(hk2:k≤64):
  Calls Tryz.prog 50 #[.int .i64 (from_:Nat), .int .i64 (to_:Nat), .int .i64 g, .int .i64 k, .pointer (some ⟨Bs,0,none⟩), .pointer (some ⟨Bf,0,none⟩)] w fun e w'=>∃fs' fit' b,e= .returned (.bool b)∧SpSt w0 w' gS Bs Bf n fs' fit'∧StepR fs fit from_ to_ g k fs' fit' b∧OnlyS gS Bf w w':=by
 have hs:=H.ks.cell 0;simp at hs;obtain⟨f,h0⟩:∃f,fs[from_]?=some f:=⟨_,List.getElem?_eq_getElem (by rw[H.len];exact hf)⟩
 obtain⟨t,h1⟩:∃t,fs[to_]?=some t:=⟨_,List.getElem?_eq_getElem (by rw[H.len];exact ht)⟩
 have of:=H.ok f (List.mem_of_getElem? h0);have ot:=H.ok t (List.mem_of_getElem? h1);rcases of.2 with rfl|⟨fv,fp⟩
 ·refine(spread1_near from_ to_ g k fs n Bs Bf gS w.heap.size w hs H.fits H.rd hf h0).mono ?_;rintro e w' ⟨rfl,rfl⟩;exact⟨fs,fit,false,rfl,H, .inl ⟨rfl,rfl,rfl, .inl h0⟩,fun _ _ _ _=>rfl⟩
 ·rcases ot.2 with rfl|⟨tv,tp⟩
  ·obtain⟨t,kk,hm,hto,-⟩:=mul_share (x:=g) (y:=k) of.1 fv fp hg hg2 hk hk2;refine(spread1_go from_ to_ g k fs f t kk fit n Bs Bf gS w0 w H hf ht h0 h1 fp hg hg2 hk hk2 hm hto).mono ?_;rintro e w' ⟨rfl,H',HO⟩;exact⟨_,_,_,rfl,H', .inr ⟨f,t,kk,h0,fv,fp,h1,hto,hm,rfl,rfl,rfl⟩,HO⟩
  ·refine(spread1_far from_ to_ g k fs f t n Bs Bf gS w.heap.size w hs H.fits H.rd hf ht h0 h1 fp tp).mono ?_;rintro e w' ⟨rfl,rfl⟩;exact⟨fs,fit,false,rfl,H, .inl ⟨rfl,rfl,rfl, .inr ⟨t,h1,tp⟩⟩,fun _ _ _ _=>rfl⟩
end Go.Proofs.YtpmlljbebdidgaaGreatDoor
