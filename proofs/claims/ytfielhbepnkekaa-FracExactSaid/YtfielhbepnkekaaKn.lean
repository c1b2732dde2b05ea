/-
  Fractions that are lent: in memory of their own, a marked one behind; kept: they are as they were.
-/
import Derived.Test.YtfielhbepnkekaaKm
namespace Go.Proofs.Ytfielhbepnkekaa
open Go.RowKit

theorem info_frac : (Try.prog.info? 23).map (fun i => (i.zero, i.size, i.bytes)) = some (some (.agg #[.int .i64 0, .int .i64 0]), 2, 16) := by kernel_rfl
/-- the mark behind -/
def markF : Fr := ⟨-77, -77⟩
theorem markF_fit : markF.fit := ⟨fitI _ (by simp [markF]), fitI _ (by simp [markF])⟩
theorem cellsF_snoc (fs : List Fr) (f : Fr) : cellsF (fs ++ [f]) = cellsF fs ++ [.int .i64 f.n, .int .i64 f.d] := by rw [cellsF_append]; rfl
theorem fit_snoc {fs : List Fr} (h : ∀ a ∈ fs, a.fit) : ∀ a ∈ fs ++ [markF], a.fit := fun a ha => by
  rcases List.mem_append.1 ha with ha | ha
  · exact h a ha
  · simp at ha; subst ha; exact markF_fit
/-- what is lent: the fractions and the mark, in a block of their own -/
def LentF (w w' : World) (fs : List Fr) (g n c : Nat) : Prop := w.heap.size ≤ g ∧ n + 1 ≤ c ∧ w'.ownsRow w.heap.size 23 2 (.slice (some ⟨g, 0, none⟩) (n + 1) c) (n + 1) (cellsF (fs ++ [markF])) ∧ Below w.heap.size w w'

theorem step_two {w : World} (b : Nat) (hb : b = w.heap.size) (T : TypeId) (x y : Value) : Rd (w.alloc (.cells #[x, y] T)) (b + 1) (some ⟨b, 0, none⟩) [x, y] := rd_alloc w b hb T [x, y]
set_option maxHeartbeats 1000000 in
theorem lentF_any (fs : List Fr) (A : Option Addr) (n c B : Nat) (w : World) (hn : fs.length = n) (hr : Rd w B A (cellsF fs)) (hl : n * 16 ≤ 140737488351232) :
    Calls Try.prog 20 #[.slice A n c] w fun e w' => ∃ g c', e = .returned (.slice (some ⟨g, 0, none⟩) n c') ∧ LentF w w' fs g n c' := by
  obtain ⟨i, hi, hz0, hz1, hz2⟩ := info_parts info_frac
  have hcl := cellsF_length fs
  go_enter Try.func20, Try.ntmps20
  go_wp2_with (at_builtin; refine wpList_append_rd _ rfl _ _ 30 rfl w.heap.size 23 i (.agg #[.int .i64 0, .int .i64 0]) 2 16 Try.underlying30 hi hz0 hz1 hz2 rfl (by decide) _ 0 [] rfl (World.ownsRow_nil _ _ _ _) B A n c (cellsF fs) rfl (by rw [hcl, hn]) hr (cellsF_one fs) (by unfold maxLen; omega) (by omega) (Nat.le_refl _) ?_)
  intro v1 w1 hown hg _
  have hb1 : Below w.heap.size w w1 := (Below.refl _ _).grown hg (Nat.le_refl _) (fun k hk => by cases hk)
  have hown1 : w1.ownsRow w.heap.size 23 2 v1 n (cellsF fs) := by simpa using hown
  have hlt := hown1.lt
  clear hown hg hr
  go_wp2_with (at_builtin; refine wpList_append_rd _ rfl _ _ 30 rfl w.heap.size 23 i (.agg #[.int .i64 0, .int .i64 0]) 2 16 Try.underlying30 hi hz0 hz1 hz2 rfl (by decide) v1 n (cellsF fs) rfl (own_below hown1 ((Below.refl _ _).alloc (Nat.le_refl _) _)) (w1.heap.size + 1) (some ⟨w1.heap.size, 0, none⟩) 1 1 [.int .i64 (-77), .int .i64 (-77)] rfl rfl (step_two _ rfl _ _ _) (by simp [Value.oneCell']) (by unfold maxLen; omega) (by omega) (by have := hb1.size; simp; omega) ?_)
  intro v2 w2 hown2 hg2 _
  have hb2 : Below w.heap.size w w2 := (hb1.alloc hb1.size _).grown hg2 (by have := hb1.size; simp; omega) (fun j hj => (hlt j hj).1)
  have hown3 : w2.ownsRow w.heap.size 23 2 v2 (n + 1) (cellsF (fs ++ [markF])) := by rw [cellsF_snoc]; exact hown2
  clear hown2 hg2 hown1
  rcases hown3.2 with ⟨rfl, h0⟩ | ⟨g, cap, cur, rfl, hg, _, hc, _⟩
  · omega
  · go_wp2_with fail
    go_ret
    exact ⟨g, cap, rfl, hg, hc, hown3, hb2⟩

/-- what is lent, as cells -/
theorem LentF.rd {w w' : World} {fs : List Fr} {g n c : Nat} (h : LentF w w' fs g n c) : Rd w' w'.heap.size (some ⟨g, 0, none⟩) (cellsF (fs ++ [markF])) := rd_of_own h.2.2.1
theorem Rd.front {w : World} {B : Nat} {A : Option Addr} {xs ys : List Value} (h : Rd w B A (xs ++ ys)) : Rd w B A xs := by
  rcases h with h | ⟨b, off, ha, hb, hc⟩
  · left; exact (List.append_eq_nil_iff.1 h).1
  · refine .inr ⟨b, off, ha, hb, fun j u hu => hc j u ?_⟩
    rw [List.getElem?_append_left (List.getElem?_eq_some_iff.1 hu).1]; exact hu
theorem LentF.rdf {w w' : World} {fs : List Fr} {g n c : Nat} (h : LentF w w' fs g n c) : Rd w' w'.heap.size (some ⟨g, 0, none⟩) (cellsF fs) := by
  have := h.rd
  rw [cellsF_append] at this
  exact this.front
theorem LentF.below {w w' w2 : World} {fs : List Fr} {g n c : Nat} (h : LentF w w' fs g n c) (hb : Below w'.heap.size w' w2) : LentF w w2 fs g n c := ⟨h.1, h.2.1, own_below h.2.2.1 hb, h.2.2.2.trans (hb.mono h.2.2.2.size)⟩

set_option maxHeartbeats 1000000 in
theorem keptF_yes (fs : List Fr) (A : Option Addr) (n c g c' B B' : Nat) (w : World) (hn : fs.length = n) (hx : ∀ a ∈ fs, a.fit) (hr : Rd w B A (cellsF fs)) (hr' : Rd w B' (some ⟨g, 0, none⟩) (cellsF (fs ++ [markF]))) (hc : n + 1 ≤ c') (hm : n * 16 ≤ 140737488351232) :
    Calls Try.prog 23 #[.slice (some ⟨g, 0, none⟩) n c', .slice A n c] w fun e w' => e = .returned (.bool true) ∧ Drawn w w' := by
  have hq : ((n : Int) != (n : Int)) = false := by simp
  have hx2 := fit_snoc hx
  go_enter Try.func23, Try.ntmps23
  go_wp2_with fail
  go_loopw [5] (fun i wr => ∃ k : Nat, k ≤ n ∧ i = .int .i64 k ∧ Drawn w wr) (fun i _ => n - (intOf i).toNat)
  case atStart => exact ⟨0, by omega, rfl, Drawn.refl w⟩
  case round =>
    obtain ⟨k, hk, rfl, hdw⟩ := hrel
    by_cases hlt : k < n
    · obtain ⟨b, off, x, rfl, hbl, hfx, c0, c1, hd, hxx⟩ := (hdw.rd hr).fr hx (k := k) (by omega)
      obtain ⟨b', off', x', ha', hbl', hfx', d0, d1, hd', hxx'⟩ := (hdw.rd hr').fr hx2 (k := k) (by simp; omega)
      obtain rfl : x' = x := by
        have h := hxx'.out
        rw [List.getElem?_append_left (by omega), hxx.out] at h
        exact (Option.some.inj h).symm
      injection ha' with ha'
      injection ha' with ha1 ha2
      subst ha1 ha2
      have h1 : (0 : Int) ≤ (k : Int) := by omega
      have h2 : (k : Int) < (n : Int) := by omega
      simp only [Nat.zero_add] at d0 d1
      clear hd hd' hxx hxx'
      go_wp2_with fail
      go_quiet (fail)
      go_wp2_with fail
      go_roundw
      case rel => exact ⟨k + 1, by omega, by go_num, hdw.drewN _⟩
      case measure => simp [intOf]; omega
    · obtain rfl : k = n := by omega
      obtain ⟨b', off', x', ha', hbl', hfx', d0, d1, hd', hxx'⟩ := (hdw.rd hr').fr hx2 (k := k) (by simp; omega)
      obtain rfl : x' = markF := by
        have h := hxx'.out
        rw [List.getElem?_append_right (by omega), hn, Nat.sub_self] at h
        exact (Option.some.inj h).symm
      injection ha' with ha'
      injection ha' with ha1 ha2
      subst ha1 ha2
      simp only [Nat.zero_add, markF] at d0 d1
      clear hd' hxx'
      go_wp2_with fail
      go_ret
      exact ⟨rfl, hdw⟩
end Go.Proofs.Ytfielhbepnkekaa
