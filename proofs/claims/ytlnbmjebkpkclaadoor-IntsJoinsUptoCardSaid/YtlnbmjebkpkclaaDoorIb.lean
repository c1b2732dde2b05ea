/-
  The walk of ints.Sum over a slice that reads as a list of numbers.
-/
import Derived.Test.YtlnbmjebkpkclaaDoorIa
import Derived.Outline
namespace Go.Proofs.YtlnbmjebkpkclaaDoor
open Go.RowKit

/-- a slice's cells, of whatever address where there are none -/
def Rd (w : World) (B : Nat) (A : Option Addr) (cs : List Value) : Prop :=
  cs = [] ∨ ∃ b off, A = some ⟨b, off, none⟩ ∧ b < B ∧ ∀ j u, cs[j]? = some u → w.cell? ⟨b, off + j, none⟩ = some u
/-- numbers as cells -/
def cellsI (xs : List Int) : List Value := xs.map (Value.int .i64)
def AllFit (xs : List Int) : Prop := ∀ x ∈ xs, fits x
theorem cellsI_length (xs : List Int) : (cellsI xs).length = xs.length := by simp [cellsI]
theorem Rd.at_ {w : World} {B : Nat} {A : Option Addr} {xs : List Int} {k : Nat} (h : Rd w B A (cellsI xs)) (hx : AllFit xs) (hk : k < xs.length) :
    ∃ b off x, A = some ⟨b, off, none⟩ ∧ b < B ∧ fits x ∧ w.cell? ⟨b, off + k, none⟩ = some (.int .i64 x) ∧ Hid (xs.drop k = x :: xs.drop (k + 1)) ∧ Hid (xs[k]? = some x) := by
  rcases h with h | ⟨b, off, ha, hb, hc⟩
  · have := cellsI_length xs; rw [h] at this; simp at this; omega
  · refine ⟨b, off, xs[k], ha, hb, hx _ (List.getElem_mem _), hc k _ ?_, List.drop_eq_getElem_cons hk, List.getElem?_eq_getElem hk⟩
    simp [cellsI, List.getElem?_map, List.getElem?_eq_getElem hk]

theorem AllFit.drop {xs : List Int} (h : AllFit xs) (k : Nat) : AllFit (xs.drop k) := fun x hx => h x (List.mem_of_mem_drop hx)
theorem natAbs_fit {x : Int} (h : fits x) : x.natAbs < 18446744073709551616 := by unfold fits at h; omega

/-- numbers added from the left to the right, on from t -/
def sumFrom (t : Int) : List Int → Int × Bool
  | [] => (t, true)
  | x :: xs => if okB (t + x) = true then sumFrom (t + x) xs else (0, false)

set_option maxHeartbeats 400000 in
theorem sum_any (xs : List Int) (A : Option Addr) (n c B : Nat) (w : World) (hn : xs.length = n) (hx : AllFit xs) (hr : Rd w B A (cellsI xs)) (hl : xs.length ≤ maxLen) :
    Calls Tryd.prog 22 #[.slice A n c] w fun e w' => e = .returned (.tuple #[.int .i64 (sumFrom 0 xs).1, .bool (sumFrom 0 xs).2]) ∧ w = w' := by
  subst hn
  unfold maxLen at hl
  go_enter Tryd.func22, Tryd.ntmps22
  go_wp2
  go_loop [4, 10] (fun t i => ∃ (k : Nat) (s : Int), k ≤ xs.length ∧ i = .int .i64 k ∧ t = .int .i64 s ∧ fits s ∧ sumFrom 0 xs = sumFrom s (xs.drop k)) (fun _ i => xs.length - (intOf i).toNat)
  case atStart => exact ⟨0, 0, Nat.zero_le _, rfl, rfl, by unfold fits; omega, rfl⟩
  case round =>
    obtain ⟨k, s, hk, rfl, rfl, hs, he⟩ := hrel
    have He := Lib.hid he
    clear he
    by_cases hlt : k < xs.length
    · obtain ⟨b, off, x, rfl, hb, hxk, hc, hd, -⟩ := hr.at_ hx hlt
      cases hn : okB (s + x)
      · have hn' := Lib.hid hn
        go_wp2_with (go_at_call 14; refine (add_any _ _ _ hs hxk).mono ?_; rintro e w' ⟨rfl, rfl⟩)
        go_ret2
        exact ⟨tup2 (by rw [He.out, hd.out, sumFrom, hn'.out]; rfl) (by rw [He.out, hd.out, sumFrom, hn'.out]; rfl), rfl⟩
      · have hn' := Lib.hid hn
        go_wp2_with (go_at_call 14; refine (add_any _ _ _ hs hxk).mono ?_; rintro e w' ⟨rfl, rfl⟩)
        go_round
        case rel => exact ⟨k + 1, s + x, by omega, by go_num, by rw [← val_yes (okB_iff.1 hn'.out)], okB_iff.1 hn'.out, by rw [He.out, hd.out, sumFrom, hn'.out]; rfl⟩
        case measure => simp [intOf]; omega
    · go_wp2
      go_ret2
      have hd : xs.drop k = [] := List.drop_eq_nil_of_le (by omega)
      exact ⟨tup2 (by rw [He.out, hd]; rfl) (by rw [He.out, hd]; rfl), rfl⟩
end Go.Proofs.YtlnbmjebkpkclaaDoor
