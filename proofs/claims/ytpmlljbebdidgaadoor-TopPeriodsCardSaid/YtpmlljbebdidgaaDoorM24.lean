/-
  Gm, Gn, Gp: texts pasted together.
-/
import Derived.Test.YtpmlljbebdidgaaDoorM23
import Derived.Test.YtpmlljbebdidgaaDoorM17
import Derived.Test.YtpmlljbebdidgaaDoorYn
import Derived.Test.YtpmlljbebdidgaaDoorGl
import Derived.Test.YtpmlljbebdidgaaDoorM27
import Derived.Test.YtpmlljbebdidgaaDoorM18
/-
  pianolatop.awake15's graph.
-/
namespace Go.Proofs.YtpmlljbebdidgaaDoor
open Go.RowKit

def awG (B : Nat) : GraV where
  nm := ⟨#[103]⟩
  acts := [⟨⟨#[97]⟩, 2, [2], some ⟨B, 0, none⟩, 1⟩, ⟨⟨#[98]⟩, 3, [3], some ⟨B + 1, 0, none⟩, 1⟩]
  edges := [⟨0, 0, 1, 0, [], none, 0⟩]
  ins := [⟨⟨#[120]⟩, 0, 0⟩]
  outs := [⟨⟨#[121]⟩, 1, 0⟩]
  aA := some ⟨B + 1 + 1, 0, none⟩
  cA := 2
  aE := some ⟨B + 1 + 1 + 1, 0, none⟩
  cE := 1
  aI := some ⟨B + 1 + 1 + 1 + 1, 0, none⟩
  cI := 1
  aO := some ⟨B + 1 + 1 + 1 + 1 + 1, 0, none⟩
  cO := 1
theorem awG_check (B : Nat) : checkG (awG B) = 0 := by kernel_rfl
theorem awG_arcs (B : Nat) : garcs (awG B) = aw1 := by kernel_rfl
theorem aw1_check : checkF 2 aw1 = 0 := by decide
theorem aw1_R0 : cR 2 aw1 0 = 3 := by decide +kernel
theorem aw1_R1 : cR 2 aw1 1 = 2 := by decide +kernel
theorem aw1_sol : SolA 2 aw1 1 [3, 2] [] 0 := by
  refine .inr ⟨aw1_check, rfl, 2, rfl, .inr (.inr ⟨?_, ?_, rfl, ?_, rfl⟩)⟩
  · rintro ⟨v, hv, h⟩
    have h2 : v = 0 ∨ v = 1 := by omega
    rcases h2 with rfl | rfl
    · rw [aw1_R0] at h; omega
    · rw [aw1_R1] at h; omega
  · intro a ha
    simp [aw1] at ha
    subst ha
    unfold evA
    show decide ((2 : Int) * (cR 2 aw1 0 : Int) = 3 * (cR 2 aw1 1 : Int)) = true
    rw [aw1_R0, aw1_R1]
    decide
  · show [3, 2] = [(cR 2 aw1 0 : Int), (cR 2 aw1 1 : Int)]
    rw [aw1_R0, aw1_R1]
    rfl
def awO (B : Nat) : List Obj :=
  [.cells #[.int .i64 2] 3, .cells #[.int .i64 3] 3,
   .cells #[.string ⟨#[97]⟩, .int .u8 2, .slice (some ⟨B, 0, none⟩) 1 1, .string ⟨#[98]⟩, .int .u8 3, .slice (some ⟨B + 1, 0, none⟩) 1 1] 62,
   .cells #[.int .i64 0, .int .i64 0, .int .i64 1, .int .i64 0, .slice none 0 0] 59, .cells #[.string ⟨#[120]⟩, .int .i64 0, .int .i64 0] 68, .cells #[.string ⟨#[121]⟩, .int .i64 1, .int .i64 0] 68]
def putO (w : World) (l : List Obj) : World := l.foldl (fun w o => w.alloc o) w
theorem putO_size (w : World) (l : List Obj) : (putO w l).heap.size = w.heap.size + l.length := by
  induction l generalizing w with
  | nil => rfl
  | cons o l ih =>
    show (putO (w.alloc o) l).heap.size = _
    rw [ih]; simp; omega
theorem putO_below (w : World) (l : List Obj) : Below w.heap.size w (putO w l) := by
  induction l generalizing w with
  | nil => exact Below.refl _ _
  | cons o l ih =>
    have b := (Below.refl w.heap.size w).alloc (Nat.le_refl _) o
    exact b.trans ((ih (w.alloc o)).mono b.size)
theorem putO_app (w : World) (l l' : List Obj) : putO w (l ++ l') = putO (putO w l) l' := List.foldl_append
/-- what lies in one of the blocks can be read -/
theorem putO_rd (w : World) (l : List Obj) (k : Nat) (xs : List Value) (t : TypeId) (hk : l[k]? = some (.cells xs.toArray t)) : Rd (putO w l) (w.heap.size + l.length) (some ⟨w.heap.size + k, 0, none⟩) xs := by
  obtain ⟨hlt, he⟩ := List.getElem?_eq_some_iff.1 hk
  have hs : l = l.take k ++ (.cells xs.toArray t :: l.drop (k + 1)) := by
    rw [← he, List.getElem_cons_drop, List.take_append_drop]
  have hz : w.heap.size + k = (putO w (l.take k)).heap.size := by rw [putO_size, List.length_take]; omega
  have r1 : Rd ((putO w (l.take k)).alloc (.cells xs.toArray t)) (w.heap.size + k + 1) (some ⟨w.heap.size + k, 0, none⟩) xs := rd_alloc _ _ hz t xs
  have b := putO_below ((putO w (l.take k)).alloc (.cells xs.toArray t)) (l.drop (k + 1))
  have r2 := (r1.below b (by simp; omega)).more (show w.heap.size + k + 1 ≤ w.heap.size + l.length by omega)
  have e : putO w l = putO ((putO w (l.take k)).alloc (.cells xs.toArray t)) (l.drop (k + 1)) := by
    conv => lhs; rw [hs, putO_app]
    rfl
  rw [e]
  exact r2
theorem awG_good (w : World) : (awG w.heap.size).good (putO w (awO w.heap.size)) (w.heap.size + 6) := by
  have r : ∀ k xs t, (awO w.heap.size)[k]? = some (.cells xs.toArray t) → Rd (putO w (awO w.heap.size)) (w.heap.size + 6) (some ⟨w.heap.size + k, 0, none⟩) xs := fun k xs t h => putO_rd w _ k xs t h
  have hm : ∀ n : Nat, n ≤ 9 → n ≤ maxLen := fun n h => by unfold maxLen; omega
  have hs : ∀ n : Nat, n ≤ 9 → n * 8 ≤ 140737488351232 := fun n h => by omega
  have ff : ∀ x : Int, 0 ≤ x → x ≤ 9 → fits x := fun x a b => by unfold fits; omega
  refine ⟨hm 1 (by decide), hm 2 (by decide), hm 1 (by decide), hm 1 (by decide), hm 1 (by decide), r 2 _ _ rfl, r 3 _ _ rfl, r 4 _ _ rfl, r 5 _ _ rfl, ?_, ?_, ?_, ?_⟩
  · intro x hx
    simp only [awG, List.mem_cons, List.not_mem_nil, or_false] at hx
    rcases hx with rfl | rfl
    · exact ⟨hm 1 (by decide), (by decide : (0 : Int) ≤ 2 ∧ (2 : Int) ≤ 255), fit_few (xs := [2]) (by decide), hm 1 (by decide), hs 1 (by decide), r 0 _ _ rfl⟩
    · exact ⟨hm 1 (by decide), (by decide : (0 : Int) ≤ 3 ∧ (3 : Int) ≤ 255), fit_few (xs := [3]) (by decide), hm 1 (by decide), hs 1 (by decide), r 1 _ _ rfl⟩
  · intro x hx
    simp only [awG, List.mem_cons, List.not_mem_nil, or_false] at hx
    subst hx
    exact ⟨ff 0 (by decide) (by decide), ff 0 (by decide) (by decide), ff 1 (by decide) (by decide), ff 0 (by decide) (by decide), fit_few (xs := []) (by decide), hm 0 (by decide), hs 0 (by decide), .inl rfl⟩
  · intro x hx
    simp only [awG, List.mem_cons, List.not_mem_nil, or_false] at hx
    subst hx
    exact ⟨hm 1 (by decide), ff 0 (by decide) (by decide), ff 0 (by decide) (by decide)⟩
  · intro x hx
    simp only [awG, List.mem_cons, List.not_mem_nil, or_false] at hx
    subst hx
    exact ⟨hm 1 (by decide), ff 1 (by decide) (by decide), ff 0 (by decide) (by decide)⟩
end Go.Proofs.YtpmlljbebdidgaaDoor
/-
  pianolatop.awake15.
-/
namespace Go.Proofs.YtpmlljbebdidgaaDoor
open Go.RowKit

set_option maxRecDepth 100000 in
set_option maxHeartbeats 4000000 in
theorem awake15_any (w : World) (hT : Tab w) : Calls Tryd.prog 5 #[] w fun e w' => e = .returned (.bool true) ∧ Below w.heap.size w w' := by
  have hg := awG_good w
  have b1 := putO_below w (awO w.heap.size)
  have z1 : (putO w (awO w.heap.size)).heap.size = w.heap.size + 1 + 1 + 1 + 1 + 1 + 1 := by rw [putO_size]; rfl
  go_enter Tryd.func5, Tryd.ntmps5
  go_upto_region 2 with fail
  obtain ⟨W6, hW6⟩ : ∃ W, putO w (awO w.heap.size) = W := ⟨_, rfl⟩
  have e : (((((w.alloc (.cells #[.int .i64 2] 3)).alloc (.cells #[.int .i64 3] 3)).alloc (.cells #[.string ⟨#[97]⟩, .int .u8 2, .slice (some ⟨w.heap.size, 0, none⟩) 1 1, .string ⟨#[98]⟩, .int .u8 3, .slice (some ⟨w.heap.size + 1, 0, none⟩) 1 1] 62)).alloc (.cells #[.int .i64 0, .int .i64 0, .int .i64 1, .int .i64 0, .slice none 0 0] 59)).alloc (.cells #[.string ⟨#[120]⟩, .int .i64 0, .int .i64 0] 68)).alloc (.cells #[.string ⟨#[121]⟩, .int .i64 1, .int .i64 0] 68) = W6 := hW6
  rw [e]
  obtain ⟨B, hB⟩ : ∃ B, w.heap.size = B := ⟨_, rfl⟩
  rw [hW6] at hg b1 z1
  rw [hB] at hg b1 z1 ⊢
  clear e hW6
  have kb := Blk.new W6 _ z1.symm 26 #[.string ⟨#[103]⟩, .slice (some ⟨B + 1 + 1, 0, none⟩) 2 2, .slice (some ⟨B + 1 + 1 + 1, 0, none⟩) 1 1, .slice (some ⟨B + 1 + 1 + 1 + 1, 0, none⟩) 1 1, .slice (some ⟨B + 1 + 1 + 1 + 1 + 1, 0, none⟩) 1 1]
  have bb := (Below.refl W6.heap.size W6).alloc (Nat.le_refl _) (.cells #[.string ⟨#[103]⟩, .slice (some ⟨B + 1 + 1, 0, none⟩) 2 2, .slice (some ⟨B + 1 + 1 + 1, 0, none⟩) 1 1, .slice (some ⟨B + 1 + 1 + 1 + 1, 0, none⟩) 1 1, .slice (some ⟨B + 1 + 1 + 1 + 1 + 1, 0, none⟩) 1 1] 26)
  obtain ⟨W7, hW7⟩ : ∃ W, W6.alloc (.cells #[.string ⟨#[103]⟩, .slice (some ⟨B + 1 + 1, 0, none⟩) 2 2, .slice (some ⟨B + 1 + 1 + 1, 0, none⟩) 1 1, .slice (some ⟨B + 1 + 1 + 1 + 1, 0, none⟩) 1 1, .slice (some ⟨B + 1 + 1 + 1 + 1 + 1, 0, none⟩) 1 1] 26) = W := ⟨_, rfl⟩
  rw [hW7] at kb bb ⊢
  have hg7 : (awG B).good W7 W7.heap.size := (hg.below bb (by omega)).more (by have := bb.size; omega)
  have b7 := b1.trans (bb.mono (by omega))
  have t7 := hT.below (hB ▸ b7) hT.pos
  have c0 := kb.cell 0
  have c1 := kb.cell 1
  have c2 := kb.cell 2
  have c3 := kb.cell 3
  have c4 := kb.cell 4
  simp only [List.getElem?_toArray, List.getElem?_cons_zero, List.getElem?_cons_succ] at c0 c1 c2 c3 c4
  have HG7 := Lib.hid hg7
  have HB7 := Lib.hid b7
  have HT7 := Lib.hid t7
  clear hg b1 z1 kb bb hW7 hg7 b7 t7
  go_wp2_with fail
  refine (netOf_any (awG B) W7 HG7.out).mono ?_
  rw [awG_check, awG_arcs]
  rintro e w2 ⟨n, A, l, c, rfl, hb2, h⟩
  obtain ⟨hn, hl, ho⟩ := h rfl
  obtain rfl : n = 2 := hn
  obtain rfl : l = 1 := hl
  have hlm : ∀ n : Nat, n ≤ 5 → n ≤ maxLen := fun n hn => by unfold maxLen; omega
  have ho : w2.ownsRow _ 66 5 (.slice A 1 c) 1 (cellsA aw1) := ho
  have b2 := HB7.out.trans (hb2.mono (by have := HB7.out.size; omega))
  have t2 := HT7.out.below hb2 HT7.out.pos
  have hb3 := (Below.refl w2.heap.size w2).alloc (Nat.le_refl _) (.cells #[.int .i64 2, .slice A 1 c] 30)
  have k3 := Blk.new w2 _ rfl 30 #[.int .i64 2, .slice A 1 c]
  have r3 := ((rd_of_own ho).below hb3 (Nat.le_refl _)).more hb3.size
  clear HG7 h hb2 ho c0 c1 c2 c3 c4
  go_upto_region 3 with fail
  obtain ⟨W3, hW3⟩ : ∃ W, w2.alloc (.cells #[.int .i64 2, .slice A 1 c] 30) = W := ⟨_, rfl⟩
  obtain ⟨g3, hg3⟩ : ∃ g, w2.heap.size = g := ⟨_, rfl⟩
  have b3 := b2.trans (hb3.mono (by have := b2.size; omega))
  have t3 := t2.below hb3 t2.pos
  rw [hW3] at hb3 k3 r3 b3 t3
  rw [hg3] at k3
  try rw [hW3]
  try rw [hg3]
  have n0 := k3.cell 0
  have n1 := k3.cell 1
  simp only [List.getElem?_toArray, List.getElem?_cons_zero, List.getElem?_cons_succ] at n0 n1
  have HB3 := Lib.hid b3
  have HT3 := Lib.hid t3
  have HK3 := Lib.hid k3
  have HR3 := Lib.hid r3
  clear hW3 hg3 b2 t2 hb3 k3 r3 b3 t3 HB7 HT7
  go_wp2_with fail
  refine (solve_any 2 aw1 A 1 c W3 rfl (aw_fit_Su (by decide)) HR3.out (hlm 1 (by omega)) HT3.out).mono ?_
  rintro e w4 ⟨vd, reps, cyc, k, Ar, cr, Ac, cc, rfl, hs, -, -, oR, -, hb4⟩
  obtain ⟨rfl, rfl, rfl, rfl⟩ := hs.one aw1_sol
  have oR : w4.ownsRow _ 3 1 (.slice Ar 2 cr) 2 (cellsI [3, 2]) := oR
  have b4 := HB3.out.trans (hb4.mono (by have := HB3.out.size; omega))
  have k4 := HK3.out.below hb4 HK3.out.lt
  have r4 := (HR3.out.below hb4 (Nat.le_refl _)).more hb4.size
  have hb5 := (Below.refl w4.heap.size w4).alloc (Nat.le_refl _) (.cells #[.int .u8 1, .slice Ar 2 cr, .slice Ac 0 cc] 38)
  have k5 := Blk.new w4 _ rfl 38 #[.int .u8 1, .slice Ar 2 cr, .slice Ac 0 cc]
  have kn5 := k4.below hb5 k4.lt
  have r5 := (r4.below hb5 (Nat.le_refl _)).more hb5.size
  have q5 := ((rd_of_own oR).below hb5 (Nat.le_refl _)).more hb5.size
  have b5 := b4.trans (hb5.mono (by have := b4.size; omega))
  clear hs oR hb4 HB3 HT3 HK3 HR3 n0 n1 k4 r4 b4
  go_upto_region 4 with fail
  obtain ⟨W5, hW5⟩ : ∃ W, w4.alloc (.cells #[.int .u8 1, .slice Ar 2 cr, .slice Ac 0 cc] 38) = W := ⟨_, rfl⟩
  obtain ⟨g5, hg5⟩ : ∃ g, w4.heap.size = g := ⟨_, rfl⟩
  rw [hW5] at hb5 k5 kn5 r5 q5 b5
  rw [hg5] at k5
  try rw [hW5]
  try rw [hg5]
  have n0 := kn5.cell 0
  have n1 := kn5.cell 1
  have p1 := k5.cell 1
  simp only [List.getElem?_toArray, List.getElem?_cons_zero, List.getElem?_cons_succ] at n0 n1 p1
  have HB5 := Lib.hid b5
  have HK5 := Lib.hid k5
  have HR5 := Lib.hid r5
  have HQ5 := Lib.hid q5
  clear hW5 hg5 hb5 k5 kn5 r5 q5 b5
  go_wp2_with fail
  refine (simRun_any 2 aw1 A 1 c [3, 2] Ar 2 cr [] none 0 0 W5 rfl (aw_fit_Su (by decide)) HR5.out (hlm 1 (by omega)) rfl (fit_few (by decide)) HQ5.out (hlm 2 (by omega)) rfl (fit_few (by decide)) (.inl rfl) (by omega)).mono ?_
  rintro e w6 ⟨lv, sv, rfl, ol, os, hb6⟩
  rw [show ((2 : Int).toNat) = 2 from rfl, aw1_ans] at ol os
  rw [aw1_ok]
  obtain ⟨Al, cl, rfl, _⟩ := own_slice ol
  obtain ⟨As, cs, rfl, _⟩ := own_slice os
  simp only [List.length_cons, List.length_nil, Nat.reduceAdd] at ol os ⊢
  have b6 := HB5.out.trans (hb6.mono (by have := HB5.out.size; omega))
  have k6 := HK5.out.below hb6 HK5.out.lt
  have q6 := (HQ5.out.below hb6 (Nat.le_refl _)).more hb6.size
  have hb7 := (Below.refl w6.heap.size w6).alloc (Nat.le_refl _) (.cells #[.slice Al 5 cl, .slice As 0 cs] 44)
  have k7 := Blk.new w6 _ rfl 44 #[.slice Al 5 cl, .slice As 0 cs]
  have kb7 := k6.below hb7 k6.lt
  have q7 := (q6.below hb7 (Nat.le_refl _)).more hb7.size
  have b7 := b6.trans (hb7.mono (by have := b6.size; omega))
  clear ol os hb6 HB5 HK5 HR5 HQ5 n0 n1 p1 k6 q6 b6
  go_upto_region 5 with fail
  obtain ⟨W7, hW7⟩ : ∃ W, w6.alloc (.cells #[.slice Al 5 cl, .slice As 0 cs] 44) = W := ⟨_, rfl⟩
  obtain ⟨g7, hg7⟩ : ∃ g, w6.heap.size = g := ⟨_, rfl⟩
  rw [hW7] at hb7 k7 kb7 q7 b7
  rw [hg7] at k7
  try rw [hW7]
  try rw [hg7]
  have x1 := kb7.cell 1
  have x0 := k7.cell 0
  simp only [List.getElem?_toArray, List.getElem?_cons_zero, List.getElem?_cons_succ] at x0 x1
  have ba := (Below.refl W7.heap.size W7).alloc (Nat.le_refl _) (.cells #[.int .i64 3, .int .i64 2] 3)
  have s7 := rd_alloc W7 _ rfl 3 (cellsI [3, 2])
  have q8 := q7.below ba (Nat.le_refl _)
  have HK8 := Lib.hid (k7.below ba k7.lt)
  have HB8 := Lib.hid (b7.trans (ba.mono (by have := b7.size; omega)))
  have HS7 := Lib.hid s7
  have HQ8 := Lib.hid q8
  clear hW7 hg7 hb7 k7 kb7 q7 b7 ba s7 q8
  go_wp2_with fail
  refine (sameInts_any [3, 2] [3, 2] Ar (some ⟨W7.heap.size, 0, none⟩) 2 2 cr 2 _ _ _ rfl rfl (fit_few (by decide)) (fit_few (by decide)) HQ8.out HS7.out (hlm 2 (by omega))).mono ?_
  rintro e w9 ⟨rfl, d9⟩
  obtain ⟨dd, rfl⟩ := d9
  have HB9 := Lib.hid (Below.drewN HB8.out dd)
  have x9 := (HK8.out.below (Below.drewN (Below.refl _ _) dd) HK8.out.lt).cell 0
  simp only [List.getElem?_toArray, List.getElem?_cons_zero] at x9
  clear HB8 HS7 HQ8
  go_wp2_with fail
  go_ret
  exact ⟨rfl, hB.symm ▸ HB9.out⟩
end Go.Proofs.YtpmlljbebdidgaaDoor
/-
  TopPeriods: its plain law; what outlives its calls.
-/
namespace Go.Proofs.YtpmlljbebdidgaaDoor
open Go.RowKit

theorem own_len {w : World} {base : Nat} {e : TypeId} {size n : Nat} {v : Value} {xs : List Value} (h : w.ownsRow base e size v n xs) : n ≤ maxLen := by
  rcases h.2 with ⟨-, h⟩ | ⟨g, cap, cur, -, -, -, h1, h2, -⟩
  · omega
  · omega
/-- what Solve finds steady: counts as simul.Run wants them -/
theorem steady_reps {n : Nat} {ars : List ArcV} (hc : checkF n ars = 0) (hb : ¬ Big n (cR n ars)) (he : ∀ a ∈ ars, evA (cR n ars) a = true) :
    (rowN n fun v => (cR n ars v : Int)).length = n ∧ (rowN n fun v => (cR n ars v : Int)).all repB = true ∧ ars.all (evenB (rowN n fun v => (cR n ars v : Int))) = true := by
  refine ⟨rowN_length _ _, List.all_eq_true.2 fun x hx => ?_, List.all_eq_true.2 fun a ha => ?_⟩
  · obtain ⟨v, hv, rfl⟩ := List.mem_map.1 hx
    have hv := List.mem_range.1 hv
    have h1 := not_big hb hv
    have h2 := (ctx_at hc).ri.pos v
    unfold repB
    rw [decide_eq_true_eq]
    omega
  · have h1 := he a ha
    have ha2 := (ctx_at hc).arc a ha
    unfold evA at h1
    unfold evenB repAt
    rw [decide_eq_true_eq] at h1 ⊢
    rw [rowN_at (by omega), rowN_at (by omega)]
    exact h1
theorem reps_fit {rs : List Int} (h : rs.all repB = true) : AllFit rs := by
  intro x hx
  have := List.all_eq_true.1 h x hx
  unfold repB at this
  rw [decide_eq_true_eq] at this
  unfold fits; omega

theorem cyc_told {n : Int} {ars : List ArcV} {vd k : Int} {reps : List Int} {cyc : List Stp} (h : SolA n ars vd reps cyc k) (hv : vd = 2) : confirmF n ars (stL cyc) = 0 := by
  subst hv
  rcases h with ⟨-, -, h, -⟩ | ⟨hc, -, m, rfl, h⟩
  · cases h
  · rcases h with ⟨-, h, -⟩ | ⟨-, -, -, i, a, p, hu, hp, rfl⟩ | ⟨-, -, h, -⟩
    · cases h
    · exact cycle_confirmed hc hu hp
    · cases h
theorem stL_fit {n : Int} {ars : List ArcV} {vd k : Int} {reps : List Int} {cyc : List Stp} (h : SolA n ars vd reps cyc k) : FitT (stL cyc) := by
  intro s hs
  obtain ⟨q, hq, rfl⟩ := List.mem_map.1 hs
  rcases h with ⟨-, -, -, -, rfl⟩ | ⟨hc, -, m, rfl, h⟩
  · cases hq
  · rcases h with ⟨-, -, -, rfl⟩ | ⟨-, -, -, i, a, p, hu, hp, rfl⟩ | ⟨-, -, -, -, rfl⟩
    · cases hq
    · have h96 := (checkF_ok hc).2.2.1
      have hlt : q.1 < ars.length := by
        rcases List.mem_cons.1 hq with rfl | hq
        · exact (List.getElem?_eq_some_iff.1 hu.1).1
        · have C := ctx_at hc
          rcases hp with ⟨h, -⟩ | ⟨-, -, h, -⟩ | ⟨-, m', x, y, -, -, -, -, -, -, h, -⟩ | ⟨-, m', x, y, h1, h2, h3, -, -, -, -, T, hT, hw, hr⟩
          · exact absurd hc h
          · cases h
          · cases h
          · obtain rfl : m = m' := by omega
            obtain rfl := edges_of hT
            obtain ⟨b, hb, -⟩ := walk_in C hw q hq
            exact (List.getElem?_eq_some_iff.1 hb).1
      unfold stI fits
      simp only
      omega
    · cases hq

/-- whatever fires first: it can be ended just if there is a list -/
theorem any_endP {n : Nat} {ars : List ArcV} {rs ps : List Int} {G : Nat → Int} (h : wrongF n ars rs ps = 0) (hR : Reach ars n rs G) (hF : Final ars n rs G) : rowF G n = rs ↔ (ansF (pickS ars (n : Int).toNat rs ps) n ars rs ps).2 = [] := by
  obtain ⟨m, hm, hck, hN, hlen, hall, heven, hsum, hno⟩ := wrongF_parts h
  obtain rfl : n = m := by omega
  rw [Int.toNat_natCast]
  unfold ansF
  rw [if_pos h, Int.toNat_natCast]
  obtain ⟨c1, c2, -, -⟩ := runF_end (pickS_ok ars n rs ps) (pickS_all ars n rs ps) _ _ .zero (Nat.le_refl _)
  generalize runF (pickS ars n rs ps) (leftSum n (leftF rs fun _ => 0)) (fun _ => 0) = r at *
  have he := end_one hN c1 c2 hR hF
  unfold endF
  rw [he]
  have hle := hR.le_reps fun v hv => by have := repAt_lt hall (f := v) (by omega); omega
  have key : blocksF ars n G (leftF rs G) n = [] ↔ rowF G n = rs := by
    constructor
    · intro hb
      refine List.ext_getElem? fun k => ?_
      by_cases hk : k < n
      · rw [rowF_at G hk]
        have h3 : rs[k]? = some (repAt rs k) := by
          unfold repAt
          rw [Int.toNat_natCast, List.getElem?_eq_getElem (by omega : k < rs.length)]
          rfl
        rw [h3]
        congr 1
        have h1 := hle k hk
        have h2 : ¬ 0 < leftF rs G k := by
          intro hl
          unfold blocksF at hb
          rw [List.map_eq_nil_iff, List.filter_eq_nil_iff] at hb
          exact hb k (List.mem_range.2 hk) (by simpa using hl)
        unfold leftF at h2
        omega
      · rw [List.getElem?_eq_none (by rw [rowF_length]; omega), List.getElem?_eq_none (by omega)]
    · intro hr
      unfold blocksF
      rw [List.map_eq_nil_iff, List.filter_eq_nil_iff]
      intro v hv
      rw [List.mem_range] at hv
      have h1 := rowF_at G hv
      rw [hr] at h1
      have h2 : repAt rs v = G v := by unfold repAt; rw [Int.toNat_natCast, h1]; rfl
      unfold leftF
      simp
      omega
  split
  · rename_i hb
    exact ⟨fun _ => rfl, fun _ => key.1 hb⟩
  · rename_i hb
    exact ⟨fun hr => key.2 hr, fun hn => absurd hn hb⟩
/-- what simul.Run may still refuse where the counts are the net's own -/
theorem wrong_top {n : Nat} {ars : List ArcV} {rs : List Int} (ps : List Int) (hc : checkF n ars = 0) (hlen : rs.length = n) (hall : rs.all repB = true) (hev : ars.all (evenB rs) = true) : wrongF n ars rs ps = 0 ∨ wrongF n ars rs ps = 5 ∨ wrongF n ars rs ps = 100 := by
  have h1 : holdE n ars rs = 0 := by
    unfold holdE
    rw [if_pos hc, if_pos (by omega)]
  have h2 : holdB n ars rs = true := by
    unfold holdB
    rw [decide_eq_true ⟨hc, by omega⟩, hall, hev]
    rfl
  unfold wrongF
  rw [if_pos h1, if_pos h2]
  split
  · exact .inr (.inl rfl)
  · split
    · exact .inl rfl
    · exact .inr (.inr rfl)
/-- what was there ahead of a call, below Z -/
structure TpS (Z : Nat) (w : World) (n : Nat) (ars : List ArcV) (gn : Nat) (A : Option Addr) (c : Nat) (Q : Option Addr) (ps : List Int) (M : Option Addr) (row : List Int) : Prop where
  zle : Z ≤ w.heap.size
  kn : Blk w gn 30 #[.int .i64 n, .slice A ars.length c]
  nlt : gn < Z
  rA : Rd w Z A (cellsA ars)
  rQ : Rd w Z Q (cellsI ps)
  rM : Rd w Z M (cellsI row)
  tab : Tab w
  tlt : 0 < Z
theorem TpS.below {Z : Nat} {w w' : World} {n : Nat} {ars : List ArcV} {gn : Nat} {A : Option Addr} {c : Nat} {Q : Option Addr} {ps : List Int} {M : Option Addr} {row : List Int} (h : TpS Z w n ars gn A c Q ps M row) (hb : Below Z w w') : TpS Z w' n ars gn A c Q ps M row :=
  ⟨Nat.le_trans h.zle hb.size, h.kn.below hb h.nlt, h.nlt, h.rA.below hb (Nat.le_refl _), h.rQ.below hb (Nat.le_refl _), h.rM.below hb (Nat.le_refl _), h.tab.below hb h.tlt, h.tlt⟩
theorem TpS.more {Z Z' : Nat} {w : World} {n : Nat} {ars : List ArcV} {gn : Nat} {A : Option Addr} {c : Nat} {Q : Option Addr} {ps : List Int} {M : Option Addr} {row : List Int} (h : TpS Z w n ars gn A c Q ps M row) (hz : Z ≤ Z') (hw : Z' ≤ w.heap.size) : TpS Z' w n ars gn A c Q ps M row :=
  ⟨hw, h.kn, Nat.lt_of_lt_of_le h.nlt hz, h.rA.more hz, h.rQ.more hz, h.rM.more hz, h.tab, Nat.lt_of_lt_of_le h.tlt hz⟩
/-- the balance in memory -/
structure TpB (Z : Nat) (w : World) (gb : Nat) (vd : Int) (Ar : Option Addr) (cr : Nat) (Ac : Option Addr) (LC cc : Nat) (rs : List Int) : Prop where
  kb : Blk w gb 38 #[.int .u8 vd, .slice Ar rs.length cr, .slice Ac LC cc]
  blt : gb < Z
  rR : Rd w Z Ar (cellsI rs)
theorem TpB.below {Z : Nat} {w w' : World} {gb : Nat} {vd : Int} {Ar : Option Addr} {cr : Nat} {Ac : Option Addr} {LC cc : Nat} {rs : List Int} (h : TpB Z w gb vd Ar cr Ac LC cc rs) (hb : Below Z w w') : TpB Z w' gb vd Ar cr Ac LC cc rs :=
  ⟨h.kb.below hb h.blt, h.blt, h.rR.below hb (Nat.le_refl _)⟩
theorem TpB.more {Z Z' : Nat} {w : World} {gb : Nat} {vd : Int} {Ar : Option Addr} {cr : Nat} {Ac : Option Addr} {LC cc : Nat} {rs : List Int} (h : TpB Z w gb vd Ar cr Ac LC cc rs) (hz : Z ≤ Z') : TpB Z' w gb vd Ar cr Ac LC cc rs :=
  ⟨h.kb, Nat.lt_of_lt_of_le h.blt hz, h.rR.more hz⟩
/-- the period in memory -/
structure TpP (Z : Nat) (w : World) (gp : Nat) (Al : Option Addr) (cl : Nat) (As : Option Addr) (cs : Nat) (xs : List Int) (bs : List BlkV) : Prop where
  kp : Blk w gp 44 #[.slice Al xs.length cl, .slice As bs.length cs]
  plt : gp < Z
  rl : Rd w Z Al (cellsI xs)
  rs : Rd w Z As (cellsB_Sr bs)
theorem TpP.below {Z : Nat} {w w' : World} {gp : Nat} {Al : Option Addr} {cl : Nat} {As : Option Addr} {cs : Nat} {xs : List Int} {bs : List BlkV} (h : TpP Z w gp Al cl As cs xs bs) (hb : Below Z w w') : TpP Z w' gp Al cl As cs xs bs :=
  ⟨h.kp.below hb h.plt, h.plt, h.rl.below hb (Nat.le_refl _), h.rs.below hb (Nat.le_refl _)⟩
theorem TpP.more {Z Z' : Nat} {w : World} {gp : Nat} {Al : Option Addr} {cl : Nat} {As : Option Addr} {cs : Nat} {xs : List Int} {bs : List BlkV} (h : TpP Z w gp Al cl As cs xs bs) (hz : Z ≤ Z') : TpP Z' w gp Al cl As cs xs bs :=
  ⟨h.kp, Nat.lt_of_lt_of_le h.plt hz, h.rl.more hz, h.rs.more hz⟩
end Go.Proofs.YtpmlljbebdidgaaDoor
