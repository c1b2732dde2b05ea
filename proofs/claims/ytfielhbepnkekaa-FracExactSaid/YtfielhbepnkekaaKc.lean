/-
  frac.Valid, frac.right, frac.New; the references' Valid, All, New.
-/
import Derived.Test.YtfielhbepnkekaaKb
import Derived.Test.YtfielhbepnkekaaKq
import Derived.Defers
import Derived.Recover
import Derived.Laws.Pointers
namespace Go.Proofs.Ytfielhbepnkekaa
open Go.RowKit

theorem quiet_drawn {P : Program} {f : FuncId} {args : Array Value} {w : World} {n : Nat} {v : Value}
    (h : Calls P f args (w.drewN n) fun e w' => e = .returned v ∧ Drawn (w.drewN n) w') : Calls P f args (w.drewN n) fun e w'' => e = .returned v ∧ ∃ m, w'' = w.drewN m :=
  h.mono fun _ _ ⟨he, m, hm⟩ => ⟨he, n + m, by rw [hm, World.drewN_drewN]⟩
theorem natAbs_lt {x : Int} (h : fits x) : x.natAbs < 18446744073709551616 := by unfold fits at h; omega

set_option maxHeartbeats 1000000 in
theorem valid_any (n d : Int) (w : World) (hn : fits n) (hd : fits d) :
    Calls Try.prog 17 #[.agg #[.int .i64 n, .int .i64 d]] w fun e w' => e = .returned (.bool (validB n d)) ∧ Below w.heap.size w w' := by
  have b0 : Below w.heap.size w (w.alloc (.cells #[.int .i64 n, .int .i64 d] 23)) := (Below.refl _ _).alloc (Nat.le_refl _) _
  have hna := natAbs_lt hn
  have hda := natAbs_lt hd
  by_cases h0 : d > 0
  · have h0d : decide (d > 0) = true := decide_eq_true h0
    obtain ⟨g, hg⟩ : ∃ g, Nat.gcd n.natAbs d.natAbs = g := ⟨_, rfl⟩
    have hv : validB n d = ((g : Int) == 1) := by
      rw [Bool.eq_iff_iff, validB_iff, hg]
      simp
      omega
    rw [hv]
    have hcom := fun w => fcommon_any n.natAbs d.natAbs hna hda w
    rw [hg] at hcom
    clear hg hv h0
    go_enter Try.func17, Try.ntmps17
    go_wp2_with fail
    go_quiet ((first | (go_at_call 37; exact quiet_left (fsize_any _ _ hn)) | (go_at_call 37; exact quiet_left (fsize_any _ _ hd)) | (go_at_call 40; exact quiet_drawn (hcom _))))
    go_wp2_with fail
    go_ret
    exact ⟨rfl, below_drewN b0 _⟩
  · have h0d : decide (d > 0) = false := decide_eq_false h0
    have hv : validB n d = false := by unfold validB; simp; omega
    rw [hv]
    clear hv h0
    go_enter Try.func17, Try.ntmps17
    go_wp2_with fail
    go_quiet (fail)
    go_wp2_with fail
    go_ret
    exact ⟨rfl, below_drewN b0 _⟩
set_option maxHeartbeats 1000000 in
theorem refValid_any (n d : Int) (w : World) (hn : fits n) (hd : fits d) :
    Calls Try.prog 19 #[.agg #[.int .i64 n, .int .i64 d]] w fun e w' => e = .returned (.bool (validB n d)) ∧ Below w.heap.size w w' := by
  have b0 : Below w.heap.size w (w.alloc (.cells #[.int .i64 n, .int .i64 d] 23)) := (Below.refl _ _).alloc (Nat.le_refl _) _
  have hna := natAbs_lt hn
  have hda := natAbs_lt hd
  by_cases h0 : d > 0
  · have h0d : decide (d > 0) = true := decide_eq_true h0
    obtain ⟨g, hg⟩ : ∃ g, Nat.gcd n.natAbs d.natAbs = g := ⟨_, rfl⟩
    have hv : validB n d = ((g : Int) == 1) := by
      rw [Bool.eq_iff_iff, validB_iff, hg]
      simp
      omega
    rw [hv]
    have hcom := fun w => common_any n.natAbs d.natAbs hna hda w
    rw [hg] at hcom
    clear hg hv h0
    go_enter Try.func19, Try.ntmps19
    go_wp2_with fail
    go_quiet ((first | (go_at_call 39; exact quiet_left (refSize_any _ _ hn)) | (go_at_call 39; exact quiet_left (refSize_any _ _ hd)) | (go_at_call 38; exact quiet_left (hcom _))))
    go_wp2_with fail
    go_ret
    exact ⟨rfl, below_drewN b0 _⟩
  · have h0d : decide (d > 0) = false := decide_eq_false h0
    have hv : validB n d = false := by unfold validB; simp; omega
    rw [hv]
    clear hv h0
    go_enter Try.func19, Try.ntmps19
    go_wp2_with fail
    go_quiet (fail)
    go_wp2_with fail
    go_ret
    exact ⟨rfl, below_drewN b0 _⟩

/-- the cells of a list of fractions -/
def Fr.cells (f : Fr) : List Value := [.int .i64 f.n, .int .i64 f.d]
def cellsF (fs : List Fr) : List Value := fs.flatMap Fr.cells
theorem cellsF_cons (f : Fr) (fs : List Fr) : cellsF (f :: fs) = f.cells ++ cellsF fs := rfl
theorem cellsF_length (fs : List Fr) : (cellsF fs).length = fs.length * 2 := by
  induction fs with
  | nil => rfl
  | cons a fs ih => rw [cellsF_cons, List.length_append, ih, List.length_cons]; simp [Fr.cells]; omega
theorem cellsF_append (a b : List Fr) : cellsF (a ++ b) = cellsF a ++ cellsF b := by simp [cellsF]
theorem cellsF_one (fs : List Fr) : ∀ u ∈ cellsF fs, u.oneCell' = true := by
  intro u hu
  obtain ⟨a, _, h⟩ := List.mem_flatMap.1 hu
  simp [Fr.cells] at h
  rcases h with rfl | rfl <;> rfl
theorem cellsF_at (fs : List Fr) : ∀ (k : Nat) (a : Fr), fs[k]? = some a → ∀ j u, a.cells[j]? = some u → (cellsF fs)[k * 2 + j]? = some u := by
  induction fs with
  | nil => intro k a h; simp at h
  | cons b fs ih =>
    intro k a h j u hu
    rw [cellsF_cons]
    match k, h with
    | 0, h =>
      simp at h
      subst h
      have hj : j < b.cells.length := (List.getElem?_eq_some_iff.1 hu).1
      rw [Nat.zero_mul, Nat.zero_add, List.getElem?_append_left hj]; exact hu
    | k + 1, h =>
      rw [List.getElem?_append_right (by simp [Fr.cells]; omega)]
      have e : (k + 1) * 2 + j - b.cells.length = k * 2 + j := by simp [Fr.cells]; omega
      rw [e]
      exact ih k a (by simpa using h) j u hu
theorem Rd.fr {w : World} {B : Nat} {A : Option Addr} {fs : List Fr} {k : Nat} (h : Rd w B A (cellsF fs)) (hx : ∀ a ∈ fs, a.fit) (hk : k < fs.length) :
    ∃ b off a, A = some ⟨b, off, none⟩ ∧ b < B ∧ a.fit ∧ w.cell? ⟨b, off + k * 2, none⟩ = some (.int .i64 a.n) ∧ w.cell? ⟨b, off + k * 2 + 1, none⟩ = some (.int .i64 a.d) ∧ Hid (fs.drop k = a :: fs.drop (k + 1)) ∧ Hid (fs[k]? = some a) := by
  rcases h with h | ⟨b, off, ha, hb, hc⟩
  · have := cellsF_length fs; rw [h] at this; simp at this; omega
  · have hg : fs[k]? = some fs[k] := List.getElem?_eq_getElem hk
    have at_ : ∀ j u, fs[k].cells[j]? = some u → w.cell? ⟨b, off + (k * 2 + j), none⟩ = some u := fun j u hu' => hc (k * 2 + j) u (cellsF_at fs k fs[k] hg j u hu')
    refine ⟨b, off, fs[k], ha, hb, hx _ (List.getElem_mem _), ?_, ?_, List.drop_eq_getElem_cons hk, hg⟩
    · have := at_ 0 _ rfl; simpa [Nat.add_assoc] using this
    · have := at_ 1 _ rfl; simpa [Nat.add_assoc] using this

theorem valid_of (f : Fr) (w : World) (hf : f.fit) : Calls Try.prog 17 #[.agg #[.int .i64 f.n, .int .i64 f.d]] w fun e w' => e = .returned (.bool f.valid) ∧ Below w.heap.size w w' := valid_any f.n f.d w hf.1 hf.2
theorem refValid_of (f : Fr) (w : World) (hf : f.fit) : Calls Try.prog 19 #[.agg #[.int .i64 f.n, .int .i64 f.d]] w fun e w' => e = .returned (.bool f.valid) ∧ Below w.heap.size w w' := refValid_any f.n f.d w hf.1 hf.2

set_option maxHeartbeats 1000000 in
theorem right_any (fs : List Fr) (A : Option Addr) (l c : Nat) (w : World) (hl : fs.length = l) (hx : ∀ a ∈ fs, a.fit) (hr : Rd w w.heap.size A (cellsF fs)) (hm : l ≤ maxLen) :
    Calls Try.prog 41 #[.slice A l c] w fun e w' => e = .returned (.bool (fs.all Fr.valid)) ∧ Below w.heap.size w w' := by
  subst hl
  unfold maxLen at hm
  go_enter Try.func41, Try.ntmps41
  go_wp2_with fail
  go_loopw [7] (fun i wr => ∃ k : Nat, k ≤ fs.length ∧ i = .int .i64 k ∧ Below w.heap.size w wr ∧ Hid (fs.all Fr.valid = (fs.drop k).all Fr.valid)) (fun i _ => fs.length - (intOf i).toNat)
  case atStart => exact ⟨0, Nat.zero_le _, rfl, Below.refl _ _, rfl⟩
  case round =>
    obtain ⟨k, hk, rfl, hb, He⟩ := hrel
    by_cases hlt : k < fs.length
    · obtain ⟨b, off, a, rfl, hbl, hf, c0, c1, hd, -⟩ := (hr.below hb (Nat.le_refl _)).fr hx hlt
      have b1 := hb.alloc hb.size (.cells #[.int .i64 a.n, .int .i64 a.d] 23)
      have k1 := Blk.new wr _ rfl 23 #[.int .i64 a.n, .int .i64 a.d]
      have hz1 : (wr.alloc (.cells #[.int .i64 a.n, .int .i64 a.d] 23)).heap.size = wr.heap.size + 1 := by simp
      have hsz := hb.size
      have d0 := k1.cell 0
      have d1 := k1.cell 1
      simp only [List.getElem?_toArray, List.getElem?_cons_zero, List.getElem?_cons_succ] at d0 d1
      cases hv : a.valid with
      | false =>
        have Hn : Hid (fs.all Fr.valid = false) := by unfold Hid; rw [He.out, hd.out]; simp [hv]
        have vc := fun w => valid_of a w hf
        rw [hv] at vc
        clear hd He hv k1
        go_wp2_with (go_at_call 17; refine (vc _).mono ?_; rintro e w' ⟨rfl, hb2⟩)
        go_ret
        exact ⟨by rw [Hn.out]; rfl, b1.trans (hb2.mono (by omega))⟩
      | true =>
        have Hn : Hid (fs.all Fr.valid = (fs.drop (k + 1)).all Fr.valid) := by unfold Hid; rw [He.out, hd.out]; simp [hv]
        have vc := fun w => valid_of a w hf
        rw [hv] at vc
        clear hd He hv k1
        go_wp2_with (go_at_call 17; refine (vc _).mono ?_; rintro e w' ⟨rfl, hb2⟩)
        go_roundw
        case rel => exact ⟨k + 1, by omega, by go_num, b1.trans (hb2.mono (by omega)), Hn⟩
        case measure => simp [intOf]; omega
    · have hd : fs.drop k = [] := List.drop_eq_nil_of_le (by omega)
      have Hn : Hid (fs.all Fr.valid = true) := by unfold Hid; rw [He.out, hd]; rfl
      clear hd He
      go_wp2_with fail
      go_ret
      exact ⟨by rw [Hn.out]; rfl, hb⟩

set_option maxHeartbeats 1000000 in
theorem refAll_any (fs : List Fr) (A : Option Addr) (l c : Nat) (w : World) (hl : fs.length = l) (hx : ∀ a ∈ fs, a.fit) (hr : Rd w w.heap.size A (cellsF fs)) (hm : l ≤ maxLen) :
    Calls Try.prog 44 #[.slice A l c] w fun e w' => e = .returned (.bool (fs.all Fr.valid)) ∧ Below w.heap.size w w' := by
  subst hl
  unfold maxLen at hm
  go_enter Try.func44, Try.ntmps44
  go_wp2_with fail
  go_loopw [3] (fun i wr => ∃ k : Nat, k ≤ fs.length ∧ i = .int .i64 k ∧ Below w.heap.size w wr ∧ Hid (fs.all Fr.valid = (fs.drop k).all Fr.valid)) (fun i _ => fs.length - (intOf i).toNat)
  case atStart => exact ⟨0, Nat.zero_le _, rfl, Below.refl _ _, rfl⟩
  case round =>
    obtain ⟨k, hk, rfl, hb, He⟩ := hrel
    by_cases hlt : k < fs.length
    · obtain ⟨b, off, a, rfl, hbl, hf, c0, c1, hd, -⟩ := (hr.below hb (Nat.le_refl _)).fr hx hlt
      have hsz := hb.size
      cases hv : a.valid with
      | false =>
        have Hn : Hid (fs.all Fr.valid = false) := by unfold Hid; rw [He.out, hd.out]; simp [hv]
        have vc := fun w => refValid_of a w hf
        rw [hv] at vc
        clear hd He hv
        go_wp2_with (go_at_call 19; refine (vc _).mono ?_; rintro e w' ⟨rfl, hb2⟩)
        go_ret
        exact ⟨by rw [Hn.out]; rfl, hb.trans (hb2.mono (by omega))⟩
      | true =>
        have Hn : Hid (fs.all Fr.valid = (fs.drop (k + 1)).all Fr.valid) := by unfold Hid; rw [He.out, hd.out]; simp [hv]
        have vc := fun w => refValid_of a w hf
        rw [hv] at vc
        clear hd He hv
        go_wp2_with (go_at_call 19; refine (vc _).mono ?_; rintro e w' ⟨rfl, hb2⟩)
        go_roundw
        case rel => exact ⟨k + 1, by omega, by go_num, hb.trans (hb2.mono (by omega)), Hn⟩
        case measure => simp [intOf]; omega
    · have hd : fs.drop k = [] := List.drop_eq_nil_of_le (by omega)
      have Hn : Hid (fs.all Fr.valid = true) := by unfold Hid; rw [He.out, hd]; rfl
      clear hd He
      go_wp2_with fail
      go_ret
      exact ⟨by rw [Hn.out]; rfl, hb⟩
end Go.Proofs.Ytfielhbepnkekaa
