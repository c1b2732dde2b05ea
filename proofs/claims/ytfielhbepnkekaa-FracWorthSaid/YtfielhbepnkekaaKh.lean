/-
  frac.Scale: the least number that makes all whole, and the fractions that many times.
-/
import Derived.Test.YtfielhbepnkekaaKe
import Derived.Test.YtfielhbepnkekaaKg
namespace Go.Proofs.Ytfielhbepnkekaa
open Go.RowKit

/-- k times f -/
def scOne (k : Int) (f : Fr) : Int := f.n * (k / f.d)
def scAll (k : Int) (fs : List Fr) : Bool := fs.all fun f => okB (scOne k f)
def lcmF (fs : List Fr) : Int × Bool := lcmGo 1 true (fs.map Fr.d)
def scaleR (fs : List Fr) : Int × List Int × Int :=
  if fs.all Fr.valid = true then
    if ((lcmF fs).2 && scAll (lcmF fs).1 fs) = true then ((lcmF fs).1, fs.map (scOne (lcmF fs).1), 0) else (0, [], 4)
  else (0, [], 1)
/-- what Scale's walk shows -/
def ScalePost (w : World) (fs : List Fr) (e : Ending) (w' : World) : Prop :=
  ∃ lv, e = .returned (.tuple #[.int .i64 (scaleR fs).1, lv, .int .i64 (scaleR fs).2.2]) ∧ w'.ownsRow w.heap.size 3 1 lv (scaleR fs).2.1.length (cellsI (scaleR fs).2.1) ∧ Below w.heap.size w w'
theorem own_none (w : World) (b : Nat) : w.ownsRow b 3 1 (.slice none 0 0) ([] : List Int).length (cellsI []) := ⟨rfl, .inl ⟨rfl, rfl⟩⟩
theorem scaleR_bad {fs : List Fr} (h : fs.all Fr.valid = false) : scaleR fs = (0, [], 1) := by unfold scaleR; rw [h]; rfl
theorem scaleR_big {fs : List Fr} (h : fs.all Fr.valid = true) (h2 : ((lcmF fs).2 && scAll (lcmF fs).1 fs) = false) : scaleR fs = (0, [], 4) := by unfold scaleR; rw [if_pos h, h2]; rfl
theorem scaleR_ok {fs : List Fr} (h : fs.all Fr.valid = true) (h2 : ((lcmF fs).2 && scAll (lcmF fs).1 fs) = true) : scaleR fs = ((lcmF fs).1, fs.map (scOne (lcmF fs).1), 0) := by unfold scaleR; rw [if_pos h, if_pos h2]
theorem ScalePost.of {w w' : World} {fs : List Fr} {k e : Int} {l : List Int} {lv : Value} (h : scaleR fs = (k, l, e)) (ho : w'.ownsRow w.heap.size 3 1 lv l.length (cellsI l)) (hb : Below w.heap.size w w') :
    ScalePost w fs (.returned (.tuple #[.int .i64 k, lv, .int .i64 e])) w' := ⟨lv, by rw [h], by rw [h]; exact ho, hb⟩
theorem cellsI_snoc (xs : List Int) (x : Int) : cellsI (xs ++ [x]) = cellsI xs ++ [.int .i64 x] := by simp [cellsI]
theorem own_one {w : World} {base : Nat} {e : TypeId} {size n : Nat} {v : Value} {xs : List Value} (h : w.ownsRow base e size v n xs) : v.cells = #[v] := by
  obtain ⟨A, c, rfl, _⟩ := own_slice h; rfl
theorem own_lower {w : World} {base base' : Nat} {e : TypeId} {size n : Nat} {v : Value} {xs : List Value} (h : w.ownsRow base e size v n xs) (hb : base' ≤ base) : w.ownsRow base' e size v n xs := by
  refine ⟨h.1, ?_⟩
  rcases h.2 with h2 | ⟨g, cap, cur, rfl, hg, h2⟩
  · exact .inl h2
  · exact .inr ⟨g, cap, cur, rfl, Nat.le_trans hb hg, h2⟩
theorem own_store {w : World} {base g : Nat} {e t : TypeId} {size n : Nat} {v : Value} {xs : List Value} {cs : Array Value} (h : w.ownsRow base e size v n xs) (_hg : Blk w g t cs) (hne : g < base) (j : Nat) (u : Value) : (w.setCell ⟨g, j, none⟩ u).ownsRow base e size v n xs := by
  refine h.kept (row := some g) ⟨rfl, rfl, rfl, by simp, fun k _ hk => Below.heap_setCell w _ u k (fun he => hk (by rw [he]))⟩ (.inr fun he => ?_)
  have := own_ge h he
  omega
theorem zeroF_dens {fs : List Fr} (h : ∀ f ∈ fs, f.valid = true) : zeroF (fs.map Fr.d) = false := by
  induction fs with
  | nil => rfl
  | cons f fs ih =>
    rw [List.map_cons, zeroF_cons, ih (fun g hg => h g (List.mem_cons_of_mem _ hg))]
    have := Fr.pos (h f (List.mem_cons_self ..))
    have hn : (f.d == 0) = false := by simp; omega
    rw [hn]; rfl
/-- the world behind a closure that lays nought, no list and the error -/
def given3 (w : World) (g h i : Nat) : World := ((w.setCell ⟨g, 0, none⟩ (.int .i64 0)).setCell ⟨h, 0, none⟩ (.slice none 0 0)).setCell ⟨i, 0, none⟩ (.int .i64 4)
theorem given3_blk {w : World} {g h i : Nat} {u0 u1 u2 : Value} (k0 : Blk w g 3 #[u0]) (k1 : Blk w h 40 #[u1]) (k2 : Blk w i 24 #[u2]) (h1 : g ≠ h) (h2 : g ≠ i) (h3 : h ≠ i) :
    Blk (given3 w g h i) g 3 #[.int .i64 0] ∧ Blk (given3 w g h i) h 40 #[.slice none 0 0] ∧ Blk (given3 w g h i) i 24 #[.int .i64 4] := by
  have a0 := ((k0.set 0 (.int .i64 0)).far (p := ⟨h, 0, none⟩) h1 (.slice none 0 0)).far (p := ⟨i, 0, none⟩) h2 (.int .i64 4)
  have a1 := ((k1.far (p := ⟨g, 0, none⟩) (fun e => h1 e.symm) (.int .i64 0)).set 0 (.slice none 0 0)).far (p := ⟨i, 0, none⟩) h3 (.int .i64 4)
  have a2 := ((k2.far (p := ⟨g, 0, none⟩) (fun e => h2 e.symm) (.int .i64 0)).far (p := ⟨h, 0, none⟩) (fun e => h3 e.symm) (.slice none 0 0)).set 0 (.int .i64 4)
  unfold given3
  exact ⟨by simpa using a0, by simpa using a1, by simpa using a2⟩
theorem given3_below {w W : World} {B g h i : Nat} (hb : Below B w W) (hg : B ≤ g) (hh : B ≤ h) (hi : B ≤ i) : Below B w (given3 W g h i) :=
  ((hb.setCell (p := ⟨g, 0, none⟩) hg _).setCell (p := ⟨h, 0, none⟩) hh _).setCell (p := ⟨i, 0, none⟩) hi _
theorem blk_facts3 {w : World} {g h i : Nat} {u0 u1 u2 : Value} (k0 : Blk w g 3 #[u0]) (k1 : Blk w h 40 #[u1]) (k2 : Blk w i 24 #[u2]) (h1 : g ≠ h) (h2 : g ≠ i) (h3 : h ≠ i) (v0 v1 : Value) :
    w.cell? ⟨g, 0, none⟩ = some u0 ∧ (w.setCell ⟨g, 0, none⟩ v0).cell? ⟨h, 0, none⟩ = some u1 ∧ ((w.setCell ⟨g, 0, none⟩ v0).setCell ⟨h, 0, none⟩ v1).cell? ⟨i, 0, none⟩ = some u2 ∧
    w.frozen? ⟨g, 0, none⟩ = false ∧ (w.setCell ⟨g, 0, none⟩ v0).frozen? ⟨h, 0, none⟩ = false ∧ ((w.setCell ⟨g, 0, none⟩ v0).setCell ⟨h, 0, none⟩ v1).frozen? ⟨i, 0, none⟩ = false := by
  have a1 := k1.far (p := ⟨g, 0, none⟩) (fun e => h1 e.symm) v0
  have a2 := (k2.far (p := ⟨g, 0, none⟩) (fun e => h2 e.symm) v0).far (p := ⟨h, 0, none⟩) (fun e => h3 e.symm) v1
  exact ⟨(k0.cell 0).trans (by simp), (a1.cell 0).trans (by simp), (a2.cell 0).trans (by simp), k0.frozen 0, a1.frozen 0, a2.frozen 0⟩
def big3Post (w : World) (g h i : Nat) (e : Ending) (u' : FrameMode) (w' : World) : Prop := e = .returned (.tuple #[]) ∧ u' = .panicking bigR ∧ w' = given3 w g h i

set_option maxHeartbeats 1000000 in
theorem scale1_idle (p q r : Addr) (w : World) : CallsD Try.prog 49 #[.pointer (some p), .pointer (some q), .pointer (some r)] .returning w (idlePost w) := by
  refine callsD_of_wpS Try.func49 rfl fun c₀ cs hu => ?_
  apply wpS_seq
  apply wpS_region
  simp [wpOpsS, go_sem, recoverD, hu, Try.ntmps49, Exit.thenS]
  apply wpS_seq
  apply wpS_region
  simp [wpOpsS, go_sem, Exit.thenS]
  refine wpS_cond (t := false) (by simp [Act.eval, Array.replicate]) ?_
  simp only [Bool.false_eq_true, if_false]
  refine wpS_of_wp (wp_skip ?_)
  cases c₀
  simp_all [bodyPostS, results, Try.results49, idlePost]

set_option maxHeartbeats 1000000 in
theorem scale1_big (g h i : Nat) (u0 u1 u2 : Value) (w : World) (k0 : Blk w g 3 #[u0]) (k1 : Blk w h 40 #[u1]) (k2 : Blk w i 24 #[u2]) (h1 : g ≠ h) (h2 : g ≠ i) (h3 : h ≠ i) :
    CallsD Try.prog 49 #[.pointer (some ⟨g, 0, none⟩), .pointer (some ⟨h, 0, none⟩), .pointer (some ⟨i, 0, none⟩)] (.panicking bigP) w (big3Post w g h i) := by
  obtain ⟨c0, c1, c2, z0, z1, z2⟩ := blk_facts3 k0 k1 k2 h1 h2 h3 (.int .i64 0) (.slice none 0 0)
  refine callsD_of_wpS Try.func49 rfl fun c₀ cs hu => ?_
  apply wpS_seq
  apply wpS_region
  simp [wpOpsS, go_sem, recoverD, hu, Try.ntmps49, Exit.thenS, bigP]
  apply wpS_seq
  apply wpS_region
  simp [wpOpsS, go_sem, Exit.thenS]
  refine wpS_cond (t := true) (by simp [Act.eval, Array.replicate]) ?_
  simp only [if_true]
  apply wpS_region
  simp [wpOpsS, go_sem, c0, c1, c2, z0, z1, z2, bodyPostS, results, Try.results49, big3Post, given3, bigR]

structure ScA (W0 : World) (gk gx m d g q : Nat) (L : Nat → Bool) (V : Nat → Value) (w : World) : Prop where
  p0 : L 12 = false → Drawn W0 w
  p1 : L 12 = true → ∃ n, w = (W0.drewN n).setCell ⟨gk, 0, none⟩ (.int .i64 ((m : Int) * (q : Int)))
  e8 : L 8 = true → V 27 = .int .u64 (g : Nat)
  c11 : L 11 = true → fits ((m : Int) * (q : Int)) ∧ V 30 = .int .i64 ((m : Int) * (q : Int))
  e0 : L 0 = true → V 19 = .int .i64 (m : Nat)
  e1 : L 1 = true → V 20 = .pointer (some ⟨gx, 1, none⟩)
  e2 : L 2 = true → V 21 = .int .i64 (d : Nat)
  e3 : L 3 = true → V 22 = .int .i64 (m : Nat)
  e4 : L 4 = true → V 23 = .int .u64 (m : Nat)
  e5 : L 5 = true → V 24 = .pointer (some ⟨gx, 1, none⟩)
  e6 : L 6 = true → V 25 = .int .i64 (d : Nat)
  e7 : L 7 = true → V 26 = .int .u64 (d : Nat)
  e9 : L 9 = true → V 28 = .int .i64 (g : Nat)
  e10 : L 10 = true → V 29 = .int .i64 (q : Nat)

structure ScB (W0 : World) (gk gl gx base m d q : Nat) (xn : Int) (lv : Value) (acc : List Int) (L : Nat → Bool) (V : Nat → Value) (w : World) : Prop where
  p0 : L 9 = false → Below W0.heap.size W0 w
  b : L 8 = true → L 9 = false → ∃ gb, V 46 = .slice (some ⟨gb, 0, none⟩) 1 1 ∧ W0.heap.size ≤ gb ∧ Blk w gb 3 #[.int .i64 (xn * (q : Int))]
  c7 : L 7 = true → fits (xn * (q : Int)) ∧ V 45 = .int .i64 (xn * (q : Int))
  p1 : L 9 = true → L 10 = false → ∃ lv', V 47 = lv' ∧ w.ownsRow base 3 1 lv' (acc ++ [xn * (q : Int)]).length (cellsI (acc ++ [xn * (q : Int)])) ∧ Below base W0 w
  p2 : L 10 = true → ∃ lv' wm, w = wm.setCell ⟨gl, 0, none⟩ lv' ∧ wm.ownsRow base 3 1 lv' (acc ++ [xn * (q : Int)]).length (cellsI (acc ++ [xn * (q : Int)])) ∧ Below base W0 wm
  e0 : L 0 = true → V 38 = lv
  e1 : L 1 = true → V 39 = .pointer (some ⟨gx, 0, none⟩)
  e2 : L 2 = true → V 40 = .int .i64 xn
  e3 : L 3 = true → V 41 = .int .i64 (m : Nat)
  e4 : L 4 = true → V 42 = .pointer (some ⟨gx, 1, none⟩)
  e5 : L 5 = true → V 43 = .int .i64 (d : Nat)
  e6 : L 6 = true → V 44 = .int .i64 (q : Nat)

structure ScC (w0 : World) (gk gl ge base m : Nat) (Al : Option Addr) (nl cl2 : Nat) (l : List Int) (L : Nat → Bool) (V : Nat → Value) (w : World) : Prop where
  pb : Below gk w0 w
  pk : Blk w gk 3 #[.int .i64 (m : Nat)]
  pl : Blk w gl 40 #[.slice Al nl cl2]
  pe : Blk w ge 24 #[.int .i64 0]
  po : w.ownsRow base 3 1 (.slice Al nl cl2) nl (cellsI l)
  e0 : L 0 = true → V 49 = .int .i64 (m : Nat)
  e1 : L 1 = true → V 50 = .slice Al nl cl2

set_option maxRecDepth 100000 in
set_option maxHeartbeats 4000000 in
theorem fscale_any (fs : List Fr) (A : Option Addr) (l c : Nat) (w : World) (hl : fs.length = l) (hx : ∀ a ∈ fs, a.fit) (hr : Rd w w.heap.size A (cellsF fs)) (hm : l ≤ 8796093022208) :
    Calls Try.prog 28 #[.slice A l c] w (ScalePost w fs) := by
  subst hl
  have hmf : ∀ (fn : Fn) (first cap : Array Value) (w : World), (Instr.makeFunc fn first cap).run Try.prog w = .ok (.func fn first cap) w := fun _ _ _ _ => rfl
  obtain ⟨gk, hgk⟩ : ∃ gk, w.heap.size = gk := ⟨_, rfl⟩
  obtain ⟨W, hW⟩ : ∃ W, ((w.alloc (.cells #[.int .i64 0] 3)).alloc (.cells #[.slice none 0 0] 40)).alloc (.cells #[.int .i64 0] 24) = W := ⟨_, rfl⟩
  have bW : Below gk w W := by subst hW hgk; exact (((Below.refl _ _).alloc (Nat.le_refl _) _).alloc (by simp) _).alloc (by simp; omega) _
  have k0 : Blk W gk 3 #[.int .i64 0] := by subst hW hgk; exact ((Blk.new w _ rfl _ _).alloc _).alloc _
  have k1 : Blk W (gk + 1) 40 #[.slice none 0 0] := by subst hW hgk; exact (Blk.new _ _ (by simp) _ _).alloc _
  have k2 : Blk W (gk + 2) 24 #[.int .i64 0] := by subst hW hgk; exact Blk.new _ _ (by simp) _ _
  have hWs : W.heap.size = gk + 3 := by subst hW; simp; omega
  have BW : Hid (∀ w1, Below gk w w1 → Below w.heap.size w w1) := fun w1 h => by rw [hgk]; exact h
  have Hr : Hid (Rd w gk A (cellsF fs)) := by unfold Hid; rw [← hgk]; exact hr
  have rc := right_any fs A fs.length c W rfl hx ((Hr.out.below bW (Nat.le_refl _)).more (by omega)) (by unfold maxLen; omega)
  clear hr
  cases hv : fs.all Fr.valid with
  | false =>
    have e : scaleR fs = (0, [], 1) := scaleR_bad hv
    rw [hv] at rc
    have Rc := Lib.hid rc
    have He := Lib.hid e
    clear rc hv e
    go_enter_defers Try.func28, Try.ntmps28
    go_wp2_with fail
    refine (Rc.out).mono ?_
    rintro e w2 ⟨rfl, hb2⟩
    have a0 := k0.below hb2 (by omega)
    have a1 := k1.below hb2 (by omega)
    have a2 := k2.below hb2 (by omega)
    have b2 := bW.trans (hb2.mono (by omega))
    clear k0 k1 k2 bW hb2 Rc
    have f0 := a0.cell 0
    have f1 := a1.cell 0
    have f2 := a2.cell 0
    have z0 := a0.frozen 0
    have z1 := a1.frozen 0
    have z2 := a2.frozen 0
    have m0 := ((a0.set 0 (.int .i64 0)).far (p := ⟨gk + 1, 0, none⟩) (by simp) (.slice none 0 0)).far (p := ⟨gk + 2, 0, none⟩) (by simp) (.int .i64 1)
    have m1 := ((a1.far (p := ⟨gk, 0, none⟩) (by simp) (.int .i64 0)).set 0 (.slice none 0 0)).far (p := ⟨gk + 2, 0, none⟩) (by simp) (.int .i64 1)
    have m2 := ((a2.far (p := ⟨gk, 0, none⟩) (by simp) (.int .i64 0)).far (p := ⟨gk + 1, 0, none⟩) (by simp) (.slice none 0 0)).set 0 (.int .i64 1)
    have bb := ((b2.setCell (p := ⟨gk, 0, none⟩) (Nat.le_refl _) (.int .i64 0)).setCell (p := ⟨gk + 1, 0, none⟩) (by simp) (.slice none 0 0)).setCell (p := ⟨gk + 2, 0, none⟩) (by simp) (.int .i64 1)
    have c0 := m0.cell 0
    have c1 := m1.cell 0
    have c2 := m2.cell 0
    simp at f0 f1 f2 c0 c1 c2
    clear a0 a1 a2 m0 m1 m2 b2
    go_wp2_with fail
    exact ⟨.tuple #[.int .i64 0, .slice none 0 0, .int .i64 1], by simp [results, Try.results28, go_sem, c0, c1, c2], ScalePost.of He.out (own_none _ _) (BW.out _ bb)⟩
  | true =>
    have Hv := Lib.hid hv
    have Hall : Hid (∀ f ∈ fs, f.valid = true) := fun f hf => List.all_eq_true.1 hv f hf
    rw [hv] at rc
    have Rc := Lib.hid rc
    clear rc hv
    go_enter_defers Try.func28, Try.ntmps28
    go_wp2_with fail
    refine (Rc.out).mono ?_
    rintro e w2 ⟨rfl, hb2⟩
    have a0 := k0.below hb2 (by omega)
    have a1 := k1.below hb2 (by omega)
    have a2 := k2.below hb2 (by omega)
    have b2 := bW.trans (hb2.mono (by omega))
    have Hgk := Lib.hid hgk
    have hsz2 := hb2.size
    have S2 : Hid (gk + 3 ≤ w2.heap.size) := by unfold Hid; omega
    clear k0 k1 k2 bW hb2 Rc hW hWs hgk hsz2
    have f0 := a0.cell 0
    have z0 := a0.frozen 0
    have m0 := a0.set 0 (.int .i64 1)
    have m1 := a1.far (p := ⟨gk, 0, none⟩) (by simp) (.int .i64 1)
    have m2 := a2.far (p := ⟨gk, 0, none⟩) (by simp) (.int .i64 1)
    have bb := b2.setCell (p := ⟨gk, 0, none⟩) (Nat.le_refl _) (.int .i64 1)
    simp at f0 m0
    have H0 := Lib.hid (And.intro bb (And.intro m0 (And.intro m1 m2)))
    clear a0 a1 a2 b2 m0 m1 m2 bb
    go_wp2_with fail
    obtain ⟨gl, hgl⟩ : ∃ gl, gk + 1 = gl := ⟨_, rfl⟩
    obtain ⟨ge, hge⟩ : ∃ ge, gl + 1 = ge := ⟨_, rfl⟩
    have hge2 : gk + 2 = ge := by omega
    rw [hgl, hge2] at H0
    clear hge2
    try rw [hgl]
    try rw [hge]
    go_loopw [15] (fun i wr => ∃ (k m : Nat), k ≤ fs.length ∧ i = .int .i64 k ∧ Below gk w wr ∧ Blk wr gk 3 #[.int .i64 (m : Nat)] ∧ Blk wr gl 40 #[.slice none 0 0] ∧ Blk wr ge 24 #[.int .i64 0] ∧ 0 < m ∧ m ≤ 9223372036854775807 ∧ Hid (lcmF fs = lcmGo m true ((fs.drop k).map Fr.d))) (fun i _ => fs.length - (intOf i).toNat)
    case atStart => exact ⟨0, 1, Nat.zero_le _, rfl, H0.out.1, H0.out.2.1, H0.out.2.2.1, H0.out.2.2.2, by omega, by omega, rfl⟩
    case round =>
      clear H0
      obtain ⟨k, m, hk, rfl, hb, kk, kl, ke, hm0, hm1, He⟩ := hrel
      have hgkl : gk < gl := by omega
      have hgle : gl < ge := by omega
      have hgw := ke.lt
      replace hgl := Lib.hid hgl
      replace hge := Lib.hid hge
      have hwz : w.heap.size = gk := Hgk.out
      by_cases hlt : k < fs.length
      · obtain ⟨b, off, ⟨xn, xd⟩, rfl, hbl, hfx, c0, c1, hd, hxx⟩ := (Hr.out.below hb (Nat.le_refl _)).fr hx hlt
        have hvx := Hall.out _ (List.mem_of_getElem? hxx.out)
        obtain ⟨hfxn, hfxd⟩ := hfx
        simp only at hfxn hfxd c0 c1
        have hpx : 0 < xd := Fr.pos hvx
        obtain ⟨d, rfl⟩ := Int.eq_ofNat_of_zero_le (Int.le_of_lt hpx)
        have hd0 : 0 < d := by omega
        have hd1 : d ≤ 9223372036854775807 := by unfold fits at hfxd; omega
        obtain ⟨g, hg⟩ : ∃ g, Nat.gcd m d = g := ⟨_, rfl⟩
        obtain ⟨q, hq⟩ : ∃ q, d / g = q := ⟨_, rfl⟩
        have hgp : 0 < g := by rw [← hg]; exact Nat.gcd_pos_of_pos_left _ hm0
        have hgd : g ≤ d := by rw [← hg]; exact Nat.gcd_le_right _ hd0
        have hqp : 0 < q := by rw [← hq, ← hg]; exact Nat.div_pos (Nat.gcd_le_right _ hd0) (by rw [hg]; exact hgp)
        have hqd : q ≤ d := by rw [← hq]; exact Nat.div_le_self _ _
        have hz : zeroF ((fs.drop (k + 1)).map Fr.d) = false := zeroF_dens fun f hf => Hall.out f (List.mem_of_mem_drop hf)
        have hstep : lcmF fs = if okB ((m : Int) * (q : Int)) = true then lcmGo (m * q) true ((fs.drop (k + 1)).map Fr.d) else (0, false) := by
          rw [He.out, hd.out, List.map_cons]
          exact lcmGo_step (x := (d : Int)) (by omega) (by show d / Nat.gcd m d = q; rw [hg]; exact hq) hz
        have hcom := fun w => fcommon_any m d (by omega) (by omega) w
        rw [hg] at hcom
        have COM := Lib.hid hcom
        have hfm : fits (m : Int) := by unfold fits; omega
        have hfq : fits (q : Int) := by unfold fits; omega
        have hgn : ¬ g = 0 := by omega
        have hqe : (d : Int) / (g : Int) = (q : Int) := by rw [← hq]; exact (Int.natCast_ediv _ _).symm
        have hwm : IntKind.u64.wrap (m : Int) = m := by rw [IntKind.wrap_u64]; omega
        have hwd : IntKind.u64.wrap (d : Int) = d := by rw [IntKind.wrap_u64]; omega
        have hwg : IntKind.i64.wrap (g : Int) = g := by rw [IntKind.wrap_i64]; omega
        have hwq : IntKind.i64.wrap (q : Int) = q := by rw [IntKind.wrap_i64]; omega
        have BAD : Hid (¬ fits ((m : Int) * (q : Int)) → ∀ w2, Below w.heap.size w w2 → ScalePost w fs (.returned (.tuple #[.int .i64 0, .slice none 0 0, .int .i64 4])) w2) := fun hs w2 hb2 => by
          refine ScalePost.of (scaleR_big Hv.out ?_) (own_none _ _) hb2
          rw [hstep, if_neg (fun h => hs (okB_iff.1 h))]; rfl
        have GOOD : Hid (fits ((m : Int) * (q : Int)) → lcmF fs = lcmGo (m * q) true ((fs.drop (k + 1)).map Fr.d)) := fun h1 => by
          rw [hstep, if_pos (okB_iff.2 h1)]
        have hmq : Hid (0 < m * q) := Nat.mul_pos hm0 hqp
        have b5 := hb.alloc (by omega) (.cells #[.int .i64 xn, .int .i64 (d : Int)] 23)
        have kk5 := kk.alloc (.cells #[.int .i64 xn, .int .i64 (d : Int)] 23)
        have kl5 := kl.alloc (.cells #[.int .i64 xn, .int .i64 (d : Int)] 23)
        have ke5 := ke.alloc (.cells #[.int .i64 xn, .int .i64 (d : Int)] 23)
        have kx5 := Blk.new wr _ rfl 23 #[.int .i64 xn, .int .i64 (d : Int)]
        have hz5 : (wr.alloc (.cells #[.int .i64 xn, .int .i64 (d : Int)] 23)).heap.size = wr.heap.size + 1 := by simp
        have H5 := Lib.hid (And.intro b5 (And.intro kk5 (And.intro kl5 (And.intro ke5 (And.intro kx5 hz5)))))
        clear hstep hg hq hd hxx He b5 kk5 kl5 ke5 kx5 hz5 hb kk kl ke hvx hwz hz hcom
        go_wp2_with fail
        obtain ⟨gx, hgx⟩ : ∃ gx, wr.heap.size = gx := ⟨_, rfl⟩
        obtain ⟨W0, hW0⟩ : ∃ W0, wr.alloc (.cells #[.int .i64 xn, .int .i64 (d : Int)] 23) = W0 := ⟨_, rfl⟩
        rw [hW0, hgx] at H5
        rw [hgx] at hgw
        try rw [hW0]
        try rw [hgx]
        obtain ⟨b5, kk5, kl5, ke5, kx5, hz5⟩ := H5.out
        have Kk := Lib.hid kk5
        have Kx := Lib.hid kx5
        have Pk : Hid (∀ w1, Below W0.heap.size W0 w1 → Blk w1 gk 3 #[.int .i64 (m : Nat)]) := fun w1 h => kk5.below h (by omega)
        have Pl : Hid (∀ w1, Below W0.heap.size W0 w1 → Blk w1 gl 40 #[.slice none 0 0]) := fun w1 h => kl5.below h (by omega)
        have Pe : Hid (∀ w1, Below W0.heap.size W0 w1 → Blk w1 ge 24 #[.int .i64 0]) := fun w1 h => ke5.below h (by omega)
        have BW0 : Hid (∀ w1, Below W0.heap.size W0 w1 → Below w.heap.size w w1) := fun w1 h => BW.out _ (b5.trans (h.mono (by omega)))
        have hgw2 : w.heap.size ≤ gk := by have := Hgk.out; omega
        clear H5 hW0 hgx b5 kk5 kl5 ke5 kx5 c0 c1
        have hIA : ∀ V, ScA W0 gk gx m d g q (fun _ => false) V W0.drew := fun V => by
          have h0 : Drawn W0 W0.drew := (Drawn.refl W0).drewN 1
          constructor
          all_goals first
            | exact fun _ => h0
            | (intro h; cases h)
        refine wp_region_put3 [19, 20, 21, 22, 23, 24, 25, 26, 27, 28, 29, 30] (ScA W0 gk gx m d g q) (by kernel_rfl) (by kernel_rfl) ?_ ?_ ?_
        · exact hIA _
        · intro i o ho L V w1 hi hL hno h K hK
          rcases i with _ | _ | _ | _ | _ | _ | _ | _ | _ | _ | _ | _ | _ | i
          · replace ho := Option.some.inj ho
            subst ho
            simp only [putAll, List.foldl_cons, List.foldl_nil, List.setIfInBounds_toArray, List.set_cons_zero, List.set_cons_succ]
            have l12 : L 12 = false := hno 12 (by kernel_rfl)
            have ct := (h.p0 l12).cell ⟨gk, 0, none⟩
            rw [Kk.out.cell 0] at ct
            simp only [List.getElem?_toArray, List.getElem?_cons_zero] at ct
            clear hL hno
            go_simp
            refine hK (updV V 19 (.int .i64 (m : Nat))) _ _ (by simp [putAll, updV]) ?_
            exact { h with e0 := fun _ => rfl }
          · replace ho := Option.some.inj ho
            subst ho
            simp only [putAll, List.foldl_cons, List.foldl_nil, List.setIfInBounds_toArray, List.set_cons_zero, List.set_cons_succ]
            clear hL hno
            go_simp
            refine hK (updV V 20 (.pointer (some ⟨gx, 1, none⟩))) _ _ (by simp [putAll, updV]) ?_
            exact { h with e1 := fun _ => rfl }
          · replace ho := Option.some.inj ho
            subst ho
            simp only [putAll, List.foldl_cons, List.foldl_nil, List.setIfInBounds_toArray, List.set_cons_zero, List.set_cons_succ]
            have e1 : V 20 = _ := h.e1 (hL ⟨1, .data⟩ (by simp) rfl)
            have l12 : L 12 = false := hno 12 (by kernel_rfl)
            have ct := (h.p0 l12).cell ⟨gx, 1, none⟩
            rw [Kx.out.cell 1] at ct
            simp only [List.getElem?_toArray, List.getElem?_cons_zero, List.getElem?_cons_succ] at ct
            clear hL hno
            go_simp
            refine hK (updV V 21 (.int .i64 (d : Nat))) _ _ (by simp [putAll, updV, e1]) ?_
            exact { h with e2 := fun _ => rfl }
          · replace ho := Option.some.inj ho
            subst ho
            simp only [putAll, List.foldl_cons, List.foldl_nil, List.setIfInBounds_toArray, List.set_cons_zero, List.set_cons_succ]
            have l12 : L 12 = false := hno 12 (by kernel_rfl)
            have ct := (h.p0 l12).cell ⟨gk, 0, none⟩
            rw [Kk.out.cell 0] at ct
            simp only [List.getElem?_toArray, List.getElem?_cons_zero] at ct
            clear hL hno
            go_simp
            refine hK (updV V 22 (.int .i64 (m : Nat))) _ _ (by simp [putAll, updV]) ?_
            exact { h with e3 := fun _ => rfl }
          · replace ho := Option.some.inj ho
            subst ho
            simp only [putAll, List.foldl_cons, List.foldl_nil, List.setIfInBounds_toArray, List.set_cons_zero, List.set_cons_succ]
            have e3 : V 22 = _ := h.e3 (hL ⟨3, .data⟩ (by simp) rfl)
            clear hL hno
            go_simp
            refine hK (updV V 23 (.int .u64 (m : Nat))) _ _ (by simp [putAll, updV, e3]) ?_
            exact { h with e4 := fun _ => rfl }
          · replace ho := Option.some.inj ho
            subst ho
            simp only [putAll, List.foldl_cons, List.foldl_nil, List.setIfInBounds_toArray, List.set_cons_zero, List.set_cons_succ]
            clear hL hno
            go_simp
            refine hK (updV V 24 (.pointer (some ⟨gx, 1, none⟩))) _ _ (by simp [putAll, updV]) ?_
            exact { h with e5 := fun _ => rfl }
          · replace ho := Option.some.inj ho
            subst ho
            simp only [putAll, List.foldl_cons, List.foldl_nil, List.setIfInBounds_toArray, List.set_cons_zero, List.set_cons_succ]
            have e5 : V 24 = _ := h.e5 (hL ⟨5, .data⟩ (by simp) rfl)
            have l12 : L 12 = false := hno 12 (by kernel_rfl)
            have ct := (h.p0 l12).cell ⟨gx, 1, none⟩
            rw [Kx.out.cell 1] at ct
            simp only [List.getElem?_toArray, List.getElem?_cons_zero, List.getElem?_cons_succ] at ct
            clear hL hno
            go_simp
            refine hK (updV V 25 (.int .i64 (d : Nat))) _ _ (by simp [putAll, updV, e5]) ?_
            exact { h with e6 := fun _ => rfl }
          · replace ho := Option.some.inj ho
            subst ho
            simp only [putAll, List.foldl_cons, List.foldl_nil, List.setIfInBounds_toArray, List.set_cons_zero, List.set_cons_succ]
            have e6 : V 25 = _ := h.e6 (hL ⟨6, .data⟩ (by simp) rfl)
            clear hL hno
            go_simp
            refine hK (updV V 26 (.int .u64 (d : Nat))) _ _ (by simp [putAll, updV, e6]) ?_
            exact { h with e7 := fun _ => rfl }
          · replace ho := Option.some.inj ho
            subst ho
            have e4 : V 23 = _ := h.e4 (hL ⟨4, .data⟩ (by simp) rfl)
            have e7 : V 26 = _ := h.e7 (hL ⟨7, .data⟩ (by simp) rfl)
            have l12 : L 12 = false := hno 12 (by kernel_rfl)
            clear hL hno
            simp only [putAll, List.foldl_cons, List.foldl_nil, List.setIfInBounds_toArray, List.set_cons_zero, List.set_cons_succ]
            go_simp
            refine (COM.out w1).mono ?_
            rintro e w3 ⟨rfl, hd3⟩
            refine hK (updV V 27 (.int .u64 (g : Nat))) _ _ (by simp [putAll, updV, e4, e7]) ?_
            exact { h with e8 := fun _ => rfl, p0 := fun hn => (h.p0 hn).trans hd3, p1 := fun hn => (by cases (hn.symm.trans l12)) }
          · replace ho := Option.some.inj ho
            subst ho
            simp only [putAll, List.foldl_cons, List.foldl_nil, List.setIfInBounds_toArray, List.set_cons_zero, List.set_cons_succ]
            have e8 : V 27 = _ := h.e8 (hL ⟨8, .data⟩ (by simp) rfl)
            clear hL hno
            go_simp
            refine hK (updV V 28 (.int .i64 (g : Nat))) _ _ (by simp [putAll, updV, e8]) ?_
            exact { h with e9 := fun _ => rfl }
          · replace ho := Option.some.inj ho
            subst ho
            simp only [putAll, List.foldl_cons, List.foldl_nil, List.setIfInBounds_toArray, List.set_cons_zero, List.set_cons_succ]
            have e2 : V 21 = _ := h.e2 (hL ⟨2, .data⟩ (by simp) rfl)
            have e9 : V 28 = _ := h.e9 (hL ⟨9, .data⟩ (by simp) rfl)
            clear hL hno
            go_simp
            refine hK (updV V 29 (.int .i64 (q : Nat))) _ _ (by simp [putAll, updV, e2, e9]) ?_
            exact { h with e10 := fun _ => rfl }
          · replace ho := Option.some.inj ho
            subst ho
            have e0 : V 19 = _ := h.e0 (hL ⟨0, .data⟩ (by simp) rfl)
            have e10 : V 29 = _ := h.e10 (hL ⟨10, .data⟩ (by simp) rfl)
            have l12 : L 12 = false := hno 12 (by kernel_rfl)
            clear hL hno
            simp only [putAll, List.foldl_cons, List.foldl_nil, List.setIfInBounds_toArray, List.set_cons_zero, List.set_cons_succ]
            go_simp
            by_cases hs : fits ((m : Int) * (q : Int))
            · refine (times_yes (m : Int) (q : Int) w1 (by assumption) (by assumption) hs).mono ?_
              rintro e w3 ⟨rfl, rfl⟩
              refine hK (updV V 30 (.int .i64 ((m : Int) * (q : Int)))) _ _ (by simp [putAll, updV, e0, e10]) ?_
              exact { h with c11 := fun _ => ⟨hs, rfl⟩ }
            · refine (times_no (m : Int) (q : Int) w1 (by assumption) (by assumption) hs).mono ?_
              rintro e w3 ⟨rfl, rfl⟩
              have PB : Below W0.heap.size W0 w1 := (h.p0 l12).below _
              have q2 := Pk.out w1 PB
              have q3 := Pl.out w1 PB
              have q4 := Pe.out w1 PB
              have rr := given3_blk q2 q3 q4 (by omega) (by omega) (by omega)
              have c0 := rr.1.cell 0
              have c1 := rr.2.1.cell 0
              have c2 := rr.2.2.cell 0
              simp at c0 c1 c2
              refine leaves_cons (f := 49) (args := #[.pointer (some ⟨gk, 0, none⟩), .pointer (some ⟨gl, 0, none⟩), .pointer (some ⟨ge, 0, none⟩)]) (by simp) (by simp [go_sem]) ?_
              refine (scale1_big _ _ _ _ _ _ _ q2 q3 q4 (by omega) (by omega) (by omega)).mono ?_
              rintro e u' w'' ⟨rfl, rfl, rfl⟩
              exact ⟨.tuple #[.int .i64 0, .slice none 0 0, .int .i64 4], by simp [results, Try.results28, go_sem, c0, c1, c2], BAD.out hs _ (given3_below (BW0.out w1 PB) (by omega) (by omega) (by omega))⟩
          · replace ho := Option.some.inj ho
            subst ho
            have t1 : L 11 = true := hL ⟨11, .data⟩ (by simp) rfl
            have e11 := (h.c11 t1).2
            have t2 : L 12 = false := hi
            clear hL hno t1
            simp only [putAll, List.foldl_cons, List.foldl_nil, List.setIfInBounds_toArray, List.set_cons_zero, List.set_cons_succ]
            refine Exists.elim (h.p0 t2) fun n hd => ?_
            clear t2
            have kb : Blk w1 gk 3 #[.int .i64 (m : Nat)] := by subst hd; exact Kk.out
            have f0 := kb.cell 0
            have z0 := kb.frozen 0
            simp only [List.getElem?_toArray, List.getElem?_cons_zero] at f0
            have p1 : ∃ n, w1.setCell ⟨gk, 0, none⟩ (.int .i64 ((m : Int) * (q : Int))) = (W0.drewN n).setCell ⟨gk, 0, none⟩ (.int .i64 ((m : Int) * (q : Int))) := ⟨n, by rw [hd]⟩
            clear kb hd
            go_simp
            refine hK V _ _ (by simp [putAll, e11]) ?_
            exact { h with p0 := fun hn => (by cases hn), p1 := fun _ => p1 }
          · simp at ho
        · clear hIA
          intro L V W1 hL h
          have t1 : L 12 = true := hL 12 (by simp)
          have t2 : L 11 = true := hL 11 (by simp)
          refine Exists.elim (h.p1 t1) fun n hW1 => ?_
          have s11 := (h.c11 t2).1
          clear t1 t2
          simp only [putAll, List.foldl_cons, List.foldl_nil, List.setIfInBounds_toArray, List.set_cons_zero, List.set_cons_succ]
          have bd : Below W0.heap.size W0 (W0.drewN n) := below_drewN (Below.refl _ _) n
          have bb : Below gk w W1 := by
            rw [hW1]
            have := (BW0.out _ bd).setCell (p := ⟨gk, 0, none⟩) hgw2 (.int .i64 ((m : Int) * (q : Int)))
            exact (Hgk.out ▸ this)
          have n0 : Blk W1 gk 3 #[.int .i64 ((m * q : Nat) : Int)] := by
            rw [hW1]
            have := (Pk.out _ bd).set 0 (.int .i64 ((m : Int) * (q : Int)))
            rw [Int.natCast_mul]
            simpa using this
          have n1 : Blk W1 gl 40 #[.slice none 0 0] := by rw [hW1]; exact (Pl.out _ bd).far (p := ⟨gk, 0, none⟩) (by simp; omega) _
          have n2 : Blk W1 ge 24 #[.int .i64 0] := by rw [hW1]; exact (Pe.out _ bd).far (p := ⟨gk, 0, none⟩) (by simp; omega) _
          have hmx : m * q ≤ 9223372036854775807 := by
            have := s11
            rw [← Int.natCast_mul] at this
            unfold fits at this
            omega
          have HX := Lib.hid (And.intro bb (And.intro n0 (And.intro n1 (And.intro n2 (And.intro hmq.out (And.intro hmx (GOOD.out s11)))))))
          clear h hL hW1 bd bb n0 n1 n2 hmx BAD GOOD Kk Kx Pk Pl Pe BW0 COM s11 hmq
          generalize V 19 = v19
          generalize V 20 = v20
          generalize V 21 = v21
          generalize V 22 = v22
          generalize V 23 = v23
          generalize V 24 = v24
          generalize V 25 = v25
          generalize V 26 = v26
          generalize V 27 = v27
          generalize V 28 = v28
          generalize V 29 = v29
          generalize V 30 = v30
          go_wp2_with fail
          go_roundw
          case rel => exact ⟨k + 1, m * q, by omega, by go_num, HX.out.1, HX.out.2.1, HX.out.2.2.1, HX.out.2.2.2.1, HX.out.2.2.2.2.1, HX.out.2.2.2.2.2.1, HX.out.2.2.2.2.2.2⟩
          case measure => simp [intOf]; omega
      · have hd : fs.drop k = [] := List.drop_eq_nil_of_le (by omega)
        have hres : lcmF fs = ((m : Int), true) := by rw [He.out, hd]; rfl
        have Hres := Lib.hid hres
        have H0 := Lib.hid (And.intro hb (And.intro kk (And.intro kl ke)))
        clear hres hd He hb kk kl ke hwz
        have S3 : Hid (gk + 3 ≤ wr.heap.size) := by have := hge.out; unfold Hid; omega
        have hgw' := hgw
        clear hgw
        go_wp2_with fail
        obtain ⟨base, hbase⟩ : ∃ base, base = gk + 3 := ⟨_, rfl⟩
        have hgeb : ge < base := by have := hge.out; have := hgl.out; omega
        replace hbase := Lib.hid hbase
        go_loopw [34] (fun i wr => ∃ (k : Nat) (lv : Value), k ≤ fs.length ∧ i = .int .i64 k ∧ Below gk w wr ∧ Blk wr gk 3 #[.int .i64 (m : Nat)] ∧ Blk wr gl 40 #[lv] ∧ Blk wr ge 24 #[.int .i64 0] ∧ base ≤ wr.heap.size ∧ wr.ownsRow base 3 1 lv ((fs.take k).map (scOne m)).length (cellsI ((fs.take k).map (scOne m))) ∧ Hid (scAll m (fs.take k) = true)) (fun i _ => fs.length - (intOf i).toNat)
        case atStart => exact ⟨0, .slice none 0 0, Nat.zero_le _, rfl, H0.out.1, H0.out.2.1, H0.out.2.2.1, H0.out.2.2.2, by rw [hbase.out]; exact S3.out, own_none _ _, rfl⟩
        case round =>
          clear H0 S3
          obtain ⟨k, lv, hk, rfl, hb, kk, kl, ke, hbz, hown, Hsc⟩ := hrel
          have hwz : w.heap.size = gk := Hgk.out
          by_cases hlt : k < fs.length
          · obtain ⟨b, off, ⟨xn, xd⟩, rfl, hbl, hfx, c0, c1, hd, hxx⟩ := (Hr.out.below hb (Nat.le_refl _)).fr hx hlt
            have hvx := Hall.out _ (List.mem_of_getElem? hxx.out)
            obtain ⟨hfxn, hfxd⟩ := hfx
            simp only at hfxn hfxd c0 c1
            have hpx : 0 < xd := Fr.pos hvx
            obtain ⟨d, rfl⟩ := Int.eq_ofNat_of_zero_le (Int.le_of_lt hpx)
            have hd0 : 0 < d := by omega
            have hd1 : d ≤ 9223372036854775807 := by unfold fits at hfxd; omega
            obtain ⟨q, hq⟩ : ∃ q, m / d = q := ⟨_, rfl⟩
            have hqm : q ≤ m := by rw [← hq]; exact Nat.div_le_self _ _
            have hfm : fits (m : Int) := by unfold fits; omega
            have hfq : fits (q : Int) := by unfold fits; omega
            have hdn : ¬ d = 0 := by omega
            have hqe : (m : Int) / (d : Int) = (q : Int) := by rw [← hq]; exact (Int.natCast_ediv _ _).symm
            have hwq : IntKind.i64.wrap (q : Int) = q := by rw [IntKind.wrap_i64]; omega
            have hsc1 : scOne m ⟨xn, (d : Int)⟩ = xn * (q : Int) := by unfold scOne; rw [hqe]
            obtain ⟨acc, hacc⟩ : ∃ acc, (fs.take k).map (scOne m) = acc := ⟨_, rfl⟩
            have hal : acc.length = k := by rw [← hacc, List.length_map, List.length_take]; omega
            have htake : fs.take (k + 1) = fs.take k ++ [⟨xn, (d : Int)⟩] := by rw [List.take_add_one, hxx.out]; rfl
            have hsnoc : (fs.take (k + 1)).map (scOne m) = acc ++ [xn * (q : Int)] := by rw [htake, List.map_append, hacc, List.map_cons, hsc1]; rfl
            have BAD : Hid (¬ fits (xn * (q : Int)) → ∀ w2, Below w.heap.size w w2 → ScalePost w fs (.returned (.tuple #[.int .i64 0, .slice none 0 0, .int .i64 4])) w2) := fun hs w2 hb2 => by
              refine ScalePost.of (scaleR_big Hv.out ?_) (own_none _ _) hb2
              rw [Hres.out]
              refine Bool.eq_false_iff.2 fun h => hs ?_
              have h2 := List.all_eq_true.1 h _ (List.mem_of_getElem? hxx.out)
              rw [hsc1] at h2
              exact okB_iff.1 h2
            have GOOD : Hid (fits (xn * (q : Int)) → scAll m (fs.take (k + 1)) = true) := fun h1 => by
              rw [htake]
              unfold scAll
              rw [List.all_append, Bool.and_eq_true]
              refine ⟨Hsc.out, ?_⟩
              simp [hsc1, okB_iff.2 h1]
            rw [hacc] at hown
            have Hsn := Lib.hid hsnoc
            have b5 := hb.alloc (by omega) (.cells #[.int .i64 xn, .int .i64 (d : Int)] 23)
            have kk5 := kk.alloc (.cells #[.int .i64 xn, .int .i64 (d : Int)] 23)
            have kl5 := kl.alloc (.cells #[.int .i64 xn, .int .i64 (d : Int)] 23)
            have ke5 := ke.alloc (.cells #[.int .i64 xn, .int .i64 (d : Int)] 23)
            have kx5 := Blk.new wr _ rfl 23 #[.int .i64 xn, .int .i64 (d : Int)]
            have hz5 : (wr.alloc (.cells #[.int .i64 xn, .int .i64 (d : Int)] 23)).heap.size = wr.heap.size + 1 := by simp
            have ho5 := own_below hown ((Below.refl _ _).alloc (Nat.le_refl _) (.cells #[.int .i64 xn, .int .i64 (d : Int)] 23))
            have H5 := Lib.hid (And.intro b5 (And.intro kk5 (And.intro kl5 (And.intro ke5 (And.intro kx5 (And.intro hz5 ho5))))))
            have Hal := Lib.hid hal
            clear hq hd hxx b5 kk5 kl5 ke5 kx5 hz5 ho5 hb kk kl ke hvx hwz hacc hsnoc htake hsc1 Hsc hown hal
            go_wp2_with fail
            obtain ⟨gx, hgx⟩ : ∃ gx, wr.heap.size = gx := ⟨_, rfl⟩
            obtain ⟨W0, hW0⟩ : ∃ W0, wr.alloc (.cells #[.int .i64 xn, .int .i64 (d : Int)] 23) = W0 := ⟨_, rfl⟩
            rw [hW0, hgx] at H5
            rw [hgx] at hbz
            try rw [hW0]
            try rw [hgx]
            obtain ⟨b5, kk5, kl5, ke5, kx5, hz5, ho5⟩ := H5.out
            have Kk := Lib.hid kk5
            have Kl := Lib.hid kl5
            have Ke := Lib.hid ke5
            have Kx := Lib.hid kx5
            have OWN := Lib.hid ho5
            have B5 := Lib.hid b5
            have Pk : Hid (∀ w1, Below W0.heap.size W0 w1 → Blk w1 gk 3 #[.int .i64 (m : Nat)]) := fun w1 h => kk5.below h (by omega)
            have Pl : Hid (∀ w1, Below W0.heap.size W0 w1 → Blk w1 gl 40 #[lv]) := fun w1 h => kl5.below h (by omega)
            have Pe : Hid (∀ w1, Below W0.heap.size W0 w1 → Blk w1 ge 24 #[.int .i64 0]) := fun w1 h => ke5.below h (by omega)
            have BW0 : Hid (∀ w1, Below W0.heap.size W0 w1 → Below w.heap.size w w1) := fun w1 h => BW.out _ (b5.trans (h.mono (by omega)))
            have hgw2 : w.heap.size ≤ gk := by have := Hgk.out; omega
            obtain ⟨ii, hii, hz0, hz1, hz2⟩ := info_parts info_int
            clear H5 hW0 hgx b5 kk5 kl5 ke5 kx5 ho5 c0 c1
            have hIB : ∀ V, ScB W0 gk gl gx base m d q xn lv acc (fun _ => false) V W0.drew := fun V => by
              have h0 : Below W0.heap.size W0 W0.drew := Drawn.below _ ((Drawn.refl W0).drewN 1)
              constructor
              all_goals first
                | exact fun _ => h0
                | (intro h; cases h)
            refine wp_region_put3 [38, 39, 40, 41, 42, 43, 44, 45, 46, 47] (ScB W0 gk gl gx base m d q xn lv acc) (by kernel_rfl) (by kernel_rfl) ?_ ?_ ?_
            · exact hIB _
            · intro i o ho L V w1 hi hL hno h K hK
              rcases i with _ | _ | _ | _ | _ | _ | _ | _ | _ | _ | _ | i
              · replace ho := Option.some.inj ho
                subst ho
                simp only [putAll, List.foldl_cons, List.foldl_nil, List.setIfInBounds_toArray, List.set_cons_zero, List.set_cons_succ]
                have l9 : L 9 = false := hno 9 (by kernel_rfl)
                have ct := (Kl.out.low (h.p0 l9) (by omega)).cell 0
                simp only [List.getElem?_toArray, List.getElem?_cons_zero] at ct
                clear hL hno
                go_simp
                refine hK (updV V 38 (lv)) _ _ (by simp [putAll, updV]) ?_
                exact { h with e0 := fun _ => rfl }
              · replace ho := Option.some.inj ho
                subst ho
                simp only [putAll, List.foldl_cons, List.foldl_nil, List.setIfInBounds_toArray, List.set_cons_zero, List.set_cons_succ]
                clear hL hno
                go_simp
                refine hK (updV V 39 (.pointer (some ⟨gx, 0, none⟩))) _ _ (by simp [putAll, updV]) ?_
                exact { h with e1 := fun _ => rfl }
              · replace ho := Option.some.inj ho
                subst ho
                simp only [putAll, List.foldl_cons, List.foldl_nil, List.setIfInBounds_toArray, List.set_cons_zero, List.set_cons_succ]
                have e1 : V 39 = _ := h.e1 (hL ⟨1, .data⟩ (by simp) rfl)
                have l9 : L 9 = false := hno 9 (by kernel_rfl)
                have ct := (Kx.out.low (h.p0 l9) (by omega)).cell 0
                simp only [List.getElem?_toArray, List.getElem?_cons_zero] at ct
                clear hL hno
                go_simp
                refine hK (updV V 40 (.int .i64 xn)) _ _ (by simp [putAll, updV, e1]) ?_
                exact { h with e2 := fun _ => rfl }
              · replace ho := Option.some.inj ho
                subst ho
                simp only [putAll, List.foldl_cons, List.foldl_nil, List.setIfInBounds_toArray, List.set_cons_zero, List.set_cons_succ]
                have l9 : L 9 = false := hno 9 (by kernel_rfl)
                have ct := (Kk.out.low (h.p0 l9) (by omega)).cell 0
                simp only [List.getElem?_toArray, List.getElem?_cons_zero] at ct
                clear hL hno
                go_simp
                refine hK (updV V 41 (.int .i64 (m : Nat))) _ _ (by simp [putAll, updV]) ?_
                exact { h with e3 := fun _ => rfl }
              · replace ho := Option.some.inj ho
                subst ho
                simp only [putAll, List.foldl_cons, List.foldl_nil, List.setIfInBounds_toArray, List.set_cons_zero, List.set_cons_succ]
                clear hL hno
                go_simp
                refine hK (updV V 42 (.pointer (some ⟨gx, 1, none⟩))) _ _ (by simp [putAll, updV]) ?_
                exact { h with e4 := fun _ => rfl }
              · replace ho := Option.some.inj ho
                subst ho
                simp only [putAll, List.foldl_cons, List.foldl_nil, List.setIfInBounds_toArray, List.set_cons_zero, List.set_cons_succ]
                have e4 : V 42 = _ := h.e4 (hL ⟨4, .data⟩ (by simp) rfl)
                have l9 : L 9 = false := hno 9 (by kernel_rfl)
                have ct := (Kx.out.low (h.p0 l9) (by omega)).cell 1
                simp only [List.getElem?_toArray, List.getElem?_cons_zero, List.getElem?_cons_succ] at ct
                clear hL hno
                go_simp
                refine hK (updV V 43 (.int .i64 (d : Nat))) _ _ (by simp [putAll, updV, e4]) ?_
                exact { h with e5 := fun _ => rfl }
              · replace ho := Option.some.inj ho
                subst ho
                simp only [putAll, List.foldl_cons, List.foldl_nil, List.setIfInBounds_toArray, List.set_cons_zero, List.set_cons_succ]
                have e3 : V 41 = _ := h.e3 (hL ⟨3, .data⟩ (by simp) rfl)
                have e5 : V 43 = _ := h.e5 (hL ⟨5, .data⟩ (by simp) rfl)
                clear hL hno
                go_simp
                refine hK (updV V 44 (.int .i64 (q : Nat))) _ _ (by simp [putAll, updV, e3, e5]) ?_
                exact { h with e6 := fun _ => rfl }
              · replace ho := Option.some.inj ho
                subst ho
                have e2 : V 40 = _ := h.e2 (hL ⟨2, .data⟩ (by simp) rfl)
                have e6 : V 44 = _ := h.e6 (hL ⟨6, .data⟩ (by simp) rfl)
                have l9 : L 9 = false := hno 9 (by kernel_rfl)
                clear hL hno
                simp only [putAll, List.foldl_cons, List.foldl_nil, List.setIfInBounds_toArray, List.set_cons_zero, List.set_cons_succ]
                go_simp
                by_cases hs : fits (xn * (q : Int))
                · refine (times_yes xn (q : Int) w1 (by assumption) (by assumption) hs).mono ?_
                  rintro e w3 ⟨rfl, rfl⟩
                  refine hK (updV V 45 (.int .i64 (xn * (q : Int)))) _ _ (by simp [putAll, updV, e2, e6]) ?_
                  exact { h with c7 := fun _ => ⟨hs, rfl⟩ }
                · refine (times_no xn (q : Int) w1 (by assumption) (by assumption) hs).mono ?_
                  rintro e w3 ⟨rfl, rfl⟩
                  have PB : Below W0.heap.size W0 w1 := h.p0 l9
                  have q2 := Pk.out w1 PB
                  have q3 := Pl.out w1 PB
                  have q4 := Pe.out w1 PB
                  have rr := given3_blk q2 q3 q4 (by omega) (by omega) (by omega)
                  have c0 := rr.1.cell 0
                  have c1 := rr.2.1.cell 0
                  have c2 := rr.2.2.cell 0
                  simp at c0 c1 c2
                  refine leaves_cons (f := 49) (args := #[.pointer (some ⟨gk, 0, none⟩), .pointer (some ⟨gl, 0, none⟩), .pointer (some ⟨ge, 0, none⟩)]) (by simp) (by simp [go_sem]) ?_
                  refine (scale1_big _ _ _ _ _ _ _ q2 q3 q4 (by omega) (by omega) (by omega)).mono ?_
                  rintro e u' w'' ⟨rfl, rfl, rfl⟩
                  exact ⟨.tuple #[.int .i64 0, .slice none 0 0, .int .i64 4], by simp [results, Try.results28, go_sem, c0, c1, c2], BAD.out hs _ (given3_below (BW0.out w1 PB) (by omega) (by omega) (by omega))⟩
              · replace ho := Option.some.inj ho
                subst ho
                have t1 : L 7 = true := hL ⟨7, .data⟩ (by simp) rfl
                have e7 := (h.c7 t1).2
                have l9 : L 9 = false := hno 9 (by kernel_rfl)
                have l10 : L 10 = false := hno 10 (by kernel_rfl)
                clear hL hno t1
                simp only [putAll, List.foldl_cons, List.foldl_nil, List.setIfInBounds_toArray, List.set_cons_zero, List.set_cons_succ]
                have hb := (Below.refl w1.heap.size w1).alloc (Nat.le_refl _) (.cells #[.int .i64 (xn * (q : Int))] 3)
                have hnew := Blk.new w1 _ rfl 3 #[.int .i64 (xn * (q : Int))]
                go_simp
                refine hK (updV V 46 (.slice (some ⟨w1.heap.size, 0, none⟩) 1 1)) _ _ (by simp [putAll, updV, e7]) ?_
                exact { h with p0 := fun hn => (h.p0 hn).trans (hb.mono (h.p0 l9).size), b := fun _ hn => ⟨_, rfl, (h.p0 l9).size, hnew⟩, p1 := fun hn => (by cases (hn.symm.trans l9)), p2 := fun hn => (by cases (hn.symm.trans l10)) }
              · replace ho := Option.some.inj ho
                subst ho
                have e0 : V 38 = _ := h.e0 (hL ⟨0, .data⟩ (by simp) rfl)
                have t1 : L 8 = true := hL ⟨8, .data⟩ (by simp) rfl
                have t2 : L 9 = false := hi
                have l10 : L 10 = false := hno 10 (by kernel_rfl)
                clear hL hno
                have hal := Hal.out
                refine Exists.elim (h.b t1 t2) fun gb hq => ?_
                have e8 := hq.1
                have hgb := hq.2.2.lt
                have hcb := hq.2.2.cell 0
                have hsz := (h.p0 t2).size
                have own1 := own_below OWN.out (h.p0 t2)
                have pb := h.p0 t2
                clear hq
                refine step_append_rd rfl _ _ 40 rfl base 3 ii (.int .i64 0) 1 8 Try.underlying40 hii hz0 hz1 hz2 rfl (by decide) lv acc.length (cellsI acc) (by simp [putAll, Act.eval, e0]) own1 w1.heap.size (some ⟨gb, 0, none⟩) 1 1 [.int .i64 (xn * (q : Int))] (by simp [putAll, Act.eval, e8]) rfl (.inr ⟨gb, 0, rfl, hgb, fun j u hu => ?_⟩) (by simp [Value.oneCell']) (by unfold maxLen; omega) (by omega) (by omega) ?_
                · cases j with
                  | zero => simp at hu; subst hu; exact hcb
                  | succ j => simp at hu
                intro v' w2 o2 g2 hv2
                have o3 : w2.ownsRow base 3 1 v' (acc ++ [xn * (q : Int)]).length (cellsI (acc ++ [xn * (q : Int)])) := by rw [cellsI_snoc, List.length_append]; exact o2
                have bb : Below base W0 w2 := (pb.mono (by omega)).grown g2 (by have := pb.size; omega) (fun k hk => own_ge own1 hk)
                refine hK (updV V 47 v') _ _ (by simp [putAll, Act.put, updV]) ?_
                exact { h with p0 := fun hn => (by cases hn), b := fun _ hn => (by cases hn), p1 := fun _ _ => ⟨_, rfl, o3, bb⟩, p2 := fun hn => (by cases (hn.symm.trans l10)) }
              · replace ho := Option.some.inj ho
                subst ho
                have t1 : L 9 = true := hL ⟨9, .data⟩ (by simp) rfl
                have t2 : L 10 = false := hi
                clear hL hno
                simp only [putAll, List.foldl_cons, List.foldl_nil, List.setIfInBounds_toArray, List.set_cons_zero, List.set_cons_succ]
                refine Exists.elim (h.p1 t1 t2) fun lv2 hq => ?_
                have e9 := hq.1
                have o3 := hq.2.1
                have bb := hq.2.2
                clear hq t2
                have kb : Blk w1 gl 40 #[lv] := Kl.out.low bb (by omega)
                have f0 := kb.cell 0
                have z0 := kb.frozen 0
                simp only [List.getElem?_toArray, List.getElem?_cons_zero] at f0
                have hone : lv2.cells = #[lv2] := own_one o3
                have p2 : ∃ lv' wm, w1.setCell ⟨gl, 0, none⟩ lv2 = wm.setCell ⟨gl, 0, none⟩ lv' ∧ wm.ownsRow base 3 1 lv' (acc ++ [xn * (q : Int)]).length (cellsI (acc ++ [xn * (q : Int)])) ∧ Below base W0 wm := ⟨lv2, w1, rfl, o3, bb⟩
                refine Exists.elim (own_slice o3) fun Al hq => Exists.elim hq fun cl hq2 => ?_
                have elv := hq2.1
                clear hq hq2 hone
                refine Exists.elim (⟨_, rfl⟩ : ∃ nl, (acc ++ [xn * (q : Int)]).length = nl) fun nl hnl => ?_
                rw [hnl] at elv
                clear hnl
                subst elv
                clear kb o3 bb
                go_simp
                refine hK V _ _ (by simp [putAll, e9]) ?_
                exact { h with p0 := fun hn => (by cases (hn.symm.trans t1)), b := fun _ hn => (by cases (hn.symm.trans t1)), p1 := fun _ hn => (by cases hn), p2 := fun _ => p2 }
              · simp at ho
            · clear hIB
              intro L V W1 hL h
              have t1 : L 10 = true := hL 10 (by simp)
              have t2 : L 7 = true := hL 7 (by simp)
              refine Exists.elim (h.p2 t1) fun lv2 hq => Exists.elim hq fun wm hq2 => ?_
              have hW1 := hq2.1
              have o3 := hq2.2.1
              have bb := hq2.2.2
              have s7 := (h.c7 t2).1
              clear t1 t2 hq hq2
              simp only [putAll, List.foldl_cons, List.foldl_nil, List.setIfInBounds_toArray, List.set_cons_zero, List.set_cons_succ]
              have nl := (Kl.out.low bb (by omega)).set 0 lv2
              have nk := (Kk.out.low bb (by omega)).far (p := ⟨gl, 0, none⟩) (by simp; omega) lv2
              have ne := (Ke.out.low bb (by omega)).far (p := ⟨gl, 0, none⟩) (by simp; omega) lv2
              have no := own_set o3 (Kl.out.low bb (by omega)) (by decide) 0 lv2
              have nb := (B5.out.trans (bb.mono (by omega))).setCell (p := ⟨gl, 0, none⟩) (by simp; omega) lv2
              have nz : base ≤ (wm.setCell ⟨gl, 0, none⟩ lv2).heap.size := by have := bb.size; simp; omega
              rw [← hW1] at nl nk ne no nb nz
              simp at nl
              have HX := Lib.hid (And.intro nb (And.intro nk (And.intro nl (And.intro ne (And.intro nz (And.intro no (GOOD.out s7)))))))
              clear h hL hW1 nl nk ne no nb nz o3 bb BAD GOOD Kk Kl Ke Kx Pk Pl Pe BW0 OWN B5 s7
              generalize V 38 = v38
              generalize V 39 = v39
              generalize V 40 = v40
              generalize V 41 = v41
              generalize V 42 = v42
              generalize V 43 = v43
              generalize V 44 = v44
              generalize V 45 = v45
              generalize V 46 = v46
              generalize V 47 = v47
              go_wp2_with fail
              go_roundw
              case rel => exact ⟨k + 1, lv2, by omega, by go_num, HX.out.1, HX.out.2.1, HX.out.2.2.1, HX.out.2.2.2.1, HX.out.2.2.2.2.1, by rw [Hsn.out]; exact HX.out.2.2.2.2.2.1, HX.out.2.2.2.2.2.2⟩
              case measure => simp [intOf]; omega
          · have ht : fs.take k = fs := List.take_of_length_le (by omega)
            rw [ht] at hown Hsc
            have hres : scaleR fs = ((m : Int), fs.map (scOne m), 0) := by
              rw [scaleR_ok Hv.out (by rw [Hres.out, Hsc.out]; rfl), Hres.out]
            have Hfin := Lib.hid hres
            obtain ⟨nl, hnl⟩ : ∃ nl, (fs.map (scOne m)).length = nl := ⟨_, rfl⟩
            rw [hnl] at hown
            replace hnl := Lib.hid hnl
            have OW := Lib.hid hown
            have HB := Lib.hid hb
            clear ht hres Hsc hwz hb
            obtain ⟨Al, cl2, rfl, -⟩ := own_slice hown
            clear hown
            go_wp2_with fail
            have hIC : ∀ V, ScC w gk gl ge base m Al nl cl2 (fs.map (scOne m)) (fun _ => false) V wr.drew := fun V => by
              constructor
              case pb => exact below_drewN HB.out 1
              case pk => exact kk.below (Drawn.below _ ((Drawn.refl wr).drewN 1)) kk.lt
              case pl => exact kl.below (Drawn.below _ ((Drawn.refl wr).drewN 1)) kl.lt
              case pe => exact ke.below (Drawn.below _ ((Drawn.refl wr).drewN 1)) ke.lt
              case po => exact own_below OW.out (Drawn.below _ ((Drawn.refl wr).drewN 1))
              all_goals (intro h; cases h)
            refine wp_region_put3 [49, 50] (ScC w gk gl ge base m Al nl cl2 (fs.map (scOne m))) (by kernel_rfl) (by kernel_rfl) ?_ ?_ ?_
            · exact hIC _
            · intro i o ho L V w1 hi hL hno h K hK
              rcases i with _ | _ | _ | _ | _ | i
              · replace ho := Option.some.inj ho
                subst ho
                simp only [putAll, List.foldl_cons, List.foldl_nil, List.setIfInBounds_toArray, List.set_cons_zero, List.set_cons_succ]
                have ct := h.pk.cell 0
                simp only [List.getElem?_toArray, List.getElem?_cons_zero] at ct
                clear hL hno
                go_simp
                refine hK (updV V 49 (.int .i64 (m : Nat))) _ _ (by simp [putAll, updV]) ?_
                exact { h with e0 := fun _ => rfl }
              · replace ho := Option.some.inj ho
                subst ho
                simp only [putAll, List.foldl_cons, List.foldl_nil, List.setIfInBounds_toArray, List.set_cons_zero, List.set_cons_succ]
                have ct := h.pl.cell 0
                simp only [List.getElem?_toArray, List.getElem?_cons_zero] at ct
                clear hL hno
                go_simp
                refine hK (updV V 50 (.slice Al nl cl2)) _ _ (by simp [putAll, updV]) ?_
                exact { h with e1 := fun _ => rfl }
              · replace ho := Option.some.inj ho
                subst ho
                have e0 : V 49 = _ := h.e0 (hL ⟨0, .data⟩ (by simp) rfl)
                clear hL hno
                simp only [putAll, List.foldl_cons, List.foldl_nil, List.setIfInBounds_toArray, List.set_cons_zero, List.set_cons_succ]
                have f0 := h.pk.cell 0
                have z0 := h.pk.frozen 0
                simp only [List.getElem?_toArray, List.getElem?_cons_zero] at f0
                have n0 := h.pk.set 0 (.int .i64 (m : Nat))
                simp at n0
                have n_pl := h.pl.far (p := ⟨gk, 0, none⟩) (by simp; omega) (.int .i64 (m : Nat))
                have n_pe := h.pe.far (p := ⟨gk, 0, none⟩) (by simp; omega) (.int .i64 (m : Nat))
                have no := own_store h.po h.pk (by omega) 0 (.int .i64 (m : Nat))
                have nb := h.pb.setCell (p := ⟨gk, 0, none⟩) (Nat.le_refl _) (.int .i64 (m : Nat))
                go_simp
                refine hK V _ _ (by simp [putAll, e0]) ?_
                exact { h with pb := nb, po := no, pk := n0, pl := n_pl, pe := n_pe }
              · replace ho := Option.some.inj ho
                subst ho
                have e1 : V 50 = _ := h.e1 (hL ⟨1, .data⟩ (by simp) rfl)
                clear hL hno
                simp only [putAll, List.foldl_cons, List.foldl_nil, List.setIfInBounds_toArray, List.set_cons_zero, List.set_cons_succ]
                have f0 := h.pl.cell 0
                have z0 := h.pl.frozen 0
                simp only [List.getElem?_toArray, List.getElem?_cons_zero] at f0
                have n0 := h.pl.set 0 (.slice Al nl cl2)
                simp at n0
                have n_pk := h.pk.far (p := ⟨gl, 0, none⟩) (by simp; omega) (.slice Al nl cl2)
                have n_pe := h.pe.far (p := ⟨gl, 0, none⟩) (by simp; omega) (.slice Al nl cl2)
                have no := own_set h.po h.pl (by decide) 0 (.slice Al nl cl2)
                have nb := h.pb.setCell (p := ⟨gl, 0, none⟩) (by simp; omega) (.slice Al nl cl2)
                go_simp
                refine hK V _ _ (by simp [putAll, e1]) ?_
                exact { h with pb := nb, po := no, pl := n0, pk := n_pk, pe := n_pe }
              · replace ho := Option.some.inj ho
                subst ho
                clear hL hno
                simp only [putAll, List.foldl_cons, List.foldl_nil, List.setIfInBounds_toArray, List.set_cons_zero, List.set_cons_succ]
                have f0 := h.pe.cell 0
                have z0 := h.pe.frozen 0
                simp only [List.getElem?_toArray, List.getElem?_cons_zero] at f0
                have n0 := h.pe.set 0 (.int .i64 0)
                simp at n0
                have n_pk := h.pk.far (p := ⟨ge, 0, none⟩) (by simp; omega) (.int .i64 0)
                have n_pl := h.pl.far (p := ⟨ge, 0, none⟩) (by simp; omega) (.int .i64 0)
                have no := own_set h.po h.pe (by decide) 0 (.int .i64 0)
                have nb := h.pb.setCell (p := ⟨ge, 0, none⟩) (by simp; omega) (.int .i64 0)
                go_simp
                refine hK V _ _ (by simp [putAll]) ?_
                exact { h with pb := nb, po := no, pe := n0, pk := n_pk, pl := n_pl }
              · simp at ho
            · clear hIC
              intro L V W1 hL h
              have c0 := h.pk.cell 0
              have c1 := h.pl.cell 0
              have c2 := h.pe.cell 0
              have bb := BW.out _ h.pb
              have oo := own_lower h.po (base' := w.heap.size) (by have := Hgk.out; have := hbase.out; omega)
              simp at c0 c1 c2
              simp only [putAll, List.foldl_cons, List.foldl_nil, List.setIfInBounds_toArray, List.set_cons_zero, List.set_cons_succ]
              clear h hL
              go_wp2_with fail
              refine leaves_cons (f := 49) (args := #[.pointer (some ⟨gk, 0, none⟩), .pointer (some ⟨gl, 0, none⟩), .pointer (some ⟨ge, 0, none⟩)]) (by simp) (by simp [go_sem]) ?_
              refine (scale1_idle _ _ _ _).mono ?_
              rintro e u' w'' ⟨rfl, rfl, rfl⟩
              exact ⟨.tuple #[.int .i64 (m : Nat), .slice Al nl cl2, .int .i64 0], by simp [results, Try.results28, go_sem, c0, c1, c2], ScalePost.of Hfin.out (by rw [hnl.out]; exact oo) bb⟩
end Go.Proofs.Ytfielhbepnkekaa
