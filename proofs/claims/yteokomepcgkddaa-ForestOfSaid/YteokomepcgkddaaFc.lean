/-
  Who stands above whom: the root of a node; the closure 'find' of forest.Of.
-/
import Derived.Test.YteokomepcgkddaaFb
namespace Go.Proofs.Yteokomepcgkddaa
open Go.RowKit

/-- who stands above a node -/
def upN (up : List Int) (v : Nat) : Nat := (up[v]?.getD 0).toNat
def rootF (up : List Int) : Nat → Nat → Nat
  | 0, v => v
  | f + 1, v => if upN up v < v then rootF up f (upN up v) else v
def root (up : List Int) (v : Nat) : Nat := rootF up v v
/-- each node's number is at least that of the one above -/
def Good (up : List Int) : Prop := ∀ (v : Nat) (x : Int), up[v]? = some x → 0 ≤ x ∧ x ≤ v

theorem rootF_more (up : List Int) : ∀ (f v : Nat), v ≤ f → rootF up f v = rootF up v v := by
  intro f
  induction f using Nat.strongRecOn with
  | ind f ih =>
    intro v hv
    match f, v with
    | 0, 0 => rfl
    | f + 1, 0 =>
      rw [rootF, rootF, if_neg (by omega)]
    | f + 1, v + 1 =>
      rw [rootF, rootF]
      by_cases h : upN up (v + 1) < v + 1
      · rw [if_pos h, if_pos h, ih f (by omega) _ (by omega)]
        rcases Nat.lt_or_ge v f with hlt | hge
        · rw [ih v (by omega) _ (by omega)]
        · obtain rfl : v = f := by omega
          rw [ih v (by omega) _ (by omega)]
      · rw [if_neg h, if_neg h]
theorem root_step (up : List Int) (v : Nat) : root up v = if upN up v < v then root up (upN up v) else v := by
  unfold root
  match v with
  | 0 => rw [if_neg (by omega)]; rfl
  | v + 1 =>
    rw [rootF]
    by_cases h : upN up (v + 1) < v + 1
    · rw [if_pos h, if_pos h, rootF_more up v _ (by omega)]
    · rw [if_neg h, if_neg h]
theorem upN_of {up : List Int} {v : Nat} {x : Int} (h : up[v]? = some x) : upN up v = x.toNat := by unfold upN; rw [h]; rfl
theorem root_le (up : List Int) : ∀ v, root up v ≤ v := by
  intro v
  induction v using Nat.strongRecOn with
  | ind v ih =>
    rw [root_step]
    by_cases h : upN up v < v
    · rw [if_pos h]; exact Nat.le_trans (ih _ h) (by omega)
    · rw [if_neg h]; exact Nat.le_refl _
/-- a root's root is itself -/
theorem root_root (up : List Int) : ∀ v, root up (root up v) = root up v := by
  intro v
  induction v using Nat.strongRecOn with
  | ind v ih =>
    by_cases h : upN up v < v
    · have e : root up v = root up (upN up v) := by rw [root_step up v, if_pos h]
      rw [e]; exact ih _ h
    · have e : root up v = v := by rw [root_step up v, if_neg h]
      rw [e]; exact e

theorem Good.fit {up : List Int} (h : Good up) (hl : up.length ≤ 32) : AllFit up := by
  intro x hx
  obtain ⟨v, hv⟩ := List.mem_iff_getElem?.1 hx
  have hvl := (List.getElem?_eq_some_iff.1 hv).1
  have := h v x hv
  unfold fits; omega

theorem find_any (up : List Int) (v : Nat) (A : Option Addr) (n c B Bx : Nat) (w : World) (hbox : w.cell? ⟨Bx, 0, none⟩ = some (.slice A n c)) (hn : up.length = n) (hr : Rd w B A (cellsI up)) (hg : Good up) (hl : n ≤ 32) (hv : v < n) :
    Calls Try.prog 24 #[.int .i64 v, .pointer (some ⟨Bx, 0, none⟩)] w fun e w' => e = .returned (.int .i64 (root up v : Nat)) ∧ w = w' := by
  subst hn
  have hf := hg.fit hl
  go_enter Try.func24, Try.ntmps24
  go_wp2
  go_loop [0] (fun s => ∃ k : Nat, s = .int .i64 k ∧ k < up.length ∧ Hid (root up v = root up k)) (fun s => (intOf s).toNat)
  case atStart => exact ⟨v, rfl, hv, rfl⟩
  case round =>
    obtain ⟨k, rfl, hk, Hk⟩ := hrel
    obtain ⟨b, off, x, rfl, hb, hxk, hc, hd, hxx⟩ := hr.at_ hf hk
    obtain ⟨hx0, hx1⟩ := hg k x hxx.out
    have hu := upN_of hxx.out
    by_cases hlt : x < k
    · have h1 : (x != (k : Int)) = true := by simp; omega
      have Hk2 : Hid (root up v = root up x.toNat) := by unfold Hid; rw [Hk.out, root_step up k, hu, if_pos (by omega)]
      obtain ⟨y, rfl⟩ : ∃ y : Nat, x = y := ⟨x.toNat, by omega⟩
      clear hd hxx Hk hu
      go_wp2
      go_round
      case rel => exact ⟨y, rfl, by omega, by simpa using Hk2⟩
      case measure => simp [intOf]; omega
    · obtain rfl : x = k := by omega
      have h1 : ((k : Int) != (k : Int)) = false := by simp
      have Hk2 : Hid (root up v = k) := by unfold Hid; rw [Hk.out, root_step up k, hu, if_neg (by omega)]
      clear hd hxx Hk hu
      go_wp2
      go_ret
      exact ⟨by rw [Hk2.out]; rfl, rfl⟩
theorem cellsI_set (l : List Int) (j : Nat) (u : Int) : (cellsI l).set j (.int .i64 u) = cellsI (l.set j u) := by simp [cellsI, List.map_set]
theorem madeCells_int (n : Nat) : (madeCells (Value.int .i64 0).cells (n * 1)).toList = cellsI (List.replicate n 0) := by
  simp only [madeCells, Value.cells, cellsI]
  apply List.ext_getElem
  · simp
  · intro j h1 h2; simp [Nat.mod_one]

def selfs (n : Nat) : List Int := (List.range n).map fun v : Nat => (v : Int)
theorem selfs_length (n : Nat) : (selfs n).length = n := by simp [selfs]
theorem selfs_at {n v : Nat} (h : v < n) : (selfs n)[v]? = some (v : Int) := by simp [selfs, h]
theorem selfs_good (n : Nat) : Good (selfs n) := fun v x h => by
  have hv := (List.getElem?_eq_some_iff.1 h).1
  rw [selfs_length] at hv
  rw [selfs_at hv] at h
  cases h
  omega
/-- one more of the numbers in their own places -/
theorem selfs_next (n k : Nat) (hk : k < n) : (selfs k ++ List.replicate (n - k) (0 : Int)).set k k = selfs (k + 1) ++ List.replicate (n - (k + 1)) 0 := by
  obtain ⟨d, rfl⟩ : ∃ d, n = k + 1 + d := ⟨n - (k + 1), by omega⟩
  have e1 : k + 1 + d - k = d + 1 := by omega
  have e2 : k + 1 + d - (k + 1) = d := by omega
  rw [e1, e2, List.replicate_succ, List.set_append_right _ _ (by rw [selfs_length]; omega), selfs_length, Nat.sub_self, List.set_cons_zero]
  simp [selfs, List.range_succ]
end Go.Proofs.Yteokomepcgkddaa
