/-
  The references' whole numbers: Negative, Plus, Minus and Cmp.
-/
import Derived.Test.YtkheoaleamolcaaDoorWd
import Derived.Deep.RegionHeld3
import Derived.Deep.DrawnRows
namespace Go.Proofs.YtkheoaleamolcaaDoor
open Go.RowKit
attribute [local go_sem ↓] Go.wp_at_zero Go.wp_at_succ


/-- three boxes, laid one behind the other, are there still -/
theorem three_boxes {w w1 : World} {x0 y0 x1 y1 x2 y2 : Value} {T : TypeId} (hb : Below (((w.alloc (.cells #[x0, y0] T)).alloc (.cells #[x1, y1] T)).alloc (.cells #[x2, y2] T)).drew.heap.size (((w.alloc (.cells #[x0, y0] T)).alloc (.cells #[x1, y1] T)).alloc (.cells #[x2, y2] T)).drew w1) :
    w1.cell? ⟨w.heap.size, 0, none⟩ = some x0 ∧ w1.cell? ⟨w.heap.size, 1, none⟩ = some y0 ∧ w1.cell? ⟨w.heap.size + 1, 0, none⟩ = some x1 ∧ w1.cell? ⟨w.heap.size + 1, 1, none⟩ = some y1 ∧
    w1.cell? ⟨w.heap.size + 1 + 1, 0, none⟩ = some x2 ∧ w1.cell? ⟨w.heap.size + 1 + 1, 1, none⟩ = some y2 ∧ w1.frozen? ⟨w.heap.size + 1 + 1, 0, none⟩ = false ∧ w1.frozen? ⟨w.heap.size + 1 + 1, 1, none⟩ = false ∧ w.heap.size + 1 + 1 < w1.heap.size ∧ Blk w1 (w.heap.size + 1 + 1) T #[x2, y2] := by
  have s3 : (((w.alloc (.cells #[x0, y0] T)).alloc (.cells #[x1, y1] T)).alloc (.cells #[x2, y2] T)).drew.heap.size = w.heap.size + 1 + 1 + 1 := by simp [World.drew]
  have b0 : Blk w1 w.heap.size T #[x0, y0] := (hb.block w.heap.size (by rw [s3]; omega)).trans (((Blk.new w _ rfl T #[x0, y0]).alloc _).alloc _)
  have b1 : Blk w1 (w.heap.size + 1) T #[x1, y1] := (hb.block (w.heap.size + 1) (by rw [s3]; omega)).trans ((Blk.new (w.alloc (.cells #[x0, y0] T)) (w.heap.size + 1) (by simp) T #[x1, y1]).alloc _)
  have b2 : Blk w1 (w.heap.size + 1 + 1) T #[x2, y2] := (hb.block (w.heap.size + 1 + 1) (by rw [s3]; omega)).trans (Blk.new ((w.alloc (.cells #[x0, y0] T)).alloc (.cells #[x1, y1] T)) (w.heap.size + 1 + 1) (by simp) T #[x2, y2])
  exact ⟨b0.cell 0, b0.cell 1, b1.cell 0, b1.cell 1, b2.cell 0, b2.cell 1, b2.frozen 0, b2.frozen 1, b2.lt, b2⟩

/-- a result's box, written -/
theorem box_written {w1 : World} {g : Nat} {T : TypeId} {x y : Value} (h : Blk w1 g T #[x, y]) (u v : Value) : Blk ((w1.setCell ⟨g, 0, none⟩ u).setCell ⟨g, 1, none⟩ v) g T #[u, v] := by
  have := (h.set 0 u).set 1 v
  simpa using this
theorem Rd.set_new {w : World} {B lo : Nat} {A : Option Addr} {cs : List Value} (h : Rd w B A cs) (hn : ∀ ad, A = some ad → lo ≤ ad.block) {p : Addr} (hp : p.block < lo) (u : Value) : Rd (w.setCell p u) B A cs := by
  rcases h with h | ⟨b, off, ha, hb, hc⟩
  · exact .inl h
  · refine .inr ⟨b, off, ha, hb, fun j v hv => ?_⟩
    have := hn _ ha
    simp only at this
    rw [World.cell?_setCell_other _ _ _ _ (by intro e; have e2 := congrArg Addr.block e; simp only at e2; omega)]
    exact hc j v hv

/-- the digits lie in new memory -/
def New (w : World) (v : Value) : Prop := ∀ s A n c ad, v = .agg #[.bool s, .slice A n c] → A = some ad → w.heap.size ≤ ad.block
theorem New.of {w : World} {s : Bool} {A : Option Addr} {n c : Nat} (h : ∀ ad, A = some ad → w.heap.size ≤ ad.block) : New w (.agg #[.bool s, .slice A n c]) := by
  intro s' A' n' c' ad h1 h2
  injection h1 with h1
  simp at h1
  obtain ⟨_, rfl, _⟩ := h1
  exact h ad h2
theorem New.to {w : World} {s : Bool} {A : Option Addr} {n c : Nat} (h : New w (.agg #[.bool s, .slice A n c])) : ∀ ad, A = some ad → w.heap.size ≤ ad.block := fun ad h1 => h s A n c ad rfl h1
/-- it makes a Whole worth z -/
def Makes (w : World) (z : Int) (e : Ending) (w' : World) : Prop := ∃ v' k, e = .returned v' ∧ WIs w' v' z k ∧ New w v' ∧ Below w.heap.size w w'

/-- what behind the call of a digits' function, and behind the stores of its answer, a Whole is worth -/
theorem makes_of {w W w1 : World} {A₁ : Option Addr} {k c₁ : Nat} {ds : List Int} {x y : Value} {T : TypeId} {z : Int} (s : Bool) (hb0 : Below w.heap.size w W) (hW : W.heap.size = w.heap.size + 1 + 1 + 1) (hk : ds.length = k) (hkc : k ≤ c₁) (hcm : c₁ ≤ maxLen) (hds : Norm ds) (hrd : Rd w1 w1.heap.size A₁ (cellsI ds))
    (hnew : ∀ ad, A₁ = some ad → W.heap.size ≤ ad.block) (hbw : Below W.heap.size W w1) (hz : z = (if s = true then - val ds else val ds)) (hs : s = true → ds ≠ []) (_hbox : Blk w1 (w.heap.size + 1 + 1) T #[x, y]) :
    Makes w z (.returned (.agg #[.bool s, .slice A₁ k c₁])) ((w1.setCell ⟨w.heap.size + 1 + 1, 0, none⟩ (.bool s)).setCell ⟨w.heap.size + 1 + 1, 1, none⟩ (.slice A₁ k c₁)) := by
  have hbb : Below w.heap.size w w1 := hb0.trans (hbw.mono (by omega))
  rw [hW] at hnew
  refine ⟨_, k, rfl, ⟨s, A₁, c₁, ds, rfl, hk, hkc, hcm, hds, ?_, hz, hs⟩, New.of (fun ad h2 => by have := hnew ad h2; omega), (hbb.setCell (by simp; omega) _).setCell (by simp; omega) _⟩
  have := (hrd.set_new hnew (p := ⟨w.heap.size + 1 + 1, 0, none⟩) (by simp) (.bool s)).set_new hnew (p := ⟨w.heap.size + 1 + 1, 1, none⟩) (by simp) (.slice A₁ k c₁)
  simpa using this



end Go.Proofs.YtkheoaleamolcaaDoor
