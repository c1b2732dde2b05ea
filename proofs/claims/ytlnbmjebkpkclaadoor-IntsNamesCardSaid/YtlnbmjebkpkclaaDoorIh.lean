/-
  IntsNames answers true.
-/
import Derived.Test.YtlnbmjebkpkclaaDoorIg
namespace Go.Proofs.YtlnbmjebkpkclaaDoor
open Go.RowKit

theorem sub_no (x y s : Int) (w : World) (hx : fits x) (hy : fits y) (h : x - y = s) (hs : ¬ fits s) : Calls Tryd.prog 15 #[.int .i64 x, .int .i64 y] w fun e w' => e = .returned (.tuple #[.int .i64 0, .bool false]) ∧ w = w' := by
  subst h; exact (sub_any x y w hx hy).mono fun _ _ ⟨h, h'⟩ => ⟨h.trans (tup2 (val_no hs).symm (b_no hs).symm), h'⟩
theorem rd_nil (w : World) (A : Option Addr) : Rd w 0 A (cellsI []) := .inl rfl
theorem sum_nil (w : World) : Calls Tryd.prog 22 #[.slice none 0 0] w fun e w' => e = .returned (.tuple #[.int .i64 0, .bool true]) ∧ w = w' :=
  (sum_any [] none 0 0 0 w rfl (allFit_lit (by simp)) (rd_nil w _) (by simp)).mono fun _ _ ⟨h, h'⟩ => ⟨h.trans (tup2 (by decide) (by decide)), h'⟩
theorem gcd_nil (w : World) (hT : Tab w) : Calls Tryd.prog 25 #[.slice none 0 0] w fun e w' => e = .returned (.tuple #[.int .i64 0, .bool true]) ∧ w = w' :=
  (gcd_any [] none 0 0 0 w rfl (allFit_lit (by simp)) (rd_nil w _) (by simp) hT).mono fun _ _ ⟨h, h'⟩ => ⟨h.trans (tup2 (by decide) (by decide)), h'⟩
theorem lcm_nil (w : World) (hT : Tab w) : Calls Tryd.prog 27 #[.slice none 0 0] w fun e w' => e = .returned (.tuple #[.int .i64 1, .bool true]) ∧ Drawn w w' :=
  (lcm_any [] none 0 0 0 w rfl (allFit_lit (by simp)) (rd_nil w _) (by simp) hT).mono fun _ _ ⟨h, h'⟩ => ⟨h.trans (tup2 (by decide) (by decide)), h'⟩
theorem dot_nil (w : World) : Calls Tryd.prog 29 #[.slice none 0 0, .slice none 0 0] w fun e w' => e = .returned (.tuple #[.int .i64 0, .bool true]) ∧ w = w' :=
  (dot_any [] [] none none 0 0 0 0 0 w rfl rfl (allFit_lit (by simp)) (allFit_lit (by simp)) (rd_nil w _) (rd_nil w _) (by simp) (by simp)).mono fun _ _ ⟨h, h'⟩ => ⟨h.trans (tup2 (by decide) (by decide)), h'⟩
theorem dot_one (w : World) (b : Nat) (hb : b = w.heap.size) : Calls Tryd.prog 29 #[.slice none 0 0, .slice (some ⟨b, 0, none⟩) 1 1] (w.alloc (.cells #[.int .i64 1] 3)) fun e w' => e = .returned (.tuple #[.int .i64 0, .bool false]) ∧ (w.alloc (.cells #[.int .i64 1] 3)) = w' :=
  (dot_any [] [1] none _ 0 1 0 1 (b + 1) _ rfl rfl (allFit_lit (by simp)) (allFit_lit (by simp)) (.inl rfl) (rd_alloc w b hb 3 (cellsI [1])) (by simp) (by unfold maxLen; decide)).mono fun _ _ ⟨h, h'⟩ => ⟨h.trans (tup2 (by decide) (by decide)), h'⟩
theorem lcm_great (w : World) (b : Nat) (hb : b = w.heap.size) (hT : Tab w) : Calls Tryd.prog 27 #[.slice (some ⟨b, 0, none⟩) 3 3] (w.alloc (.cells #[.int .i64 4294967296, .int .i64 4294967295, .int .i64 0] 3)) fun e w' => e = .returned (.tuple #[.int .i64 0, .bool true]) ∧ Drawn (w.alloc (.cells #[.int .i64 4294967296, .int .i64 4294967295, .int .i64 0] 3)) w' :=
  (lcm_any [4294967296, 4294967295, 0] _ 3 3 (b + 1) _ rfl (allFit_lit (by simp)) (rd_alloc w b hb 3 (cellsI [4294967296, 4294967295, 0])) (by unfold maxLen; decide) (hT.alloc _)).mono fun _ _ ⟨h, h'⟩ => ⟨h.trans (tup2 (by decide +kernel) (by decide +kernel)), h'⟩

set_option maxRecDepth 100000 in
set_option maxHeartbeats 2000000 in
theorem names_any (w : World) (hT : Tab w) : Calls Tryd.prog 13 #[] w fun e w' => e = .returned (.bool true) ∧ Below w.heap.size w w' := by
  have hf0 : fits 0 := by unfold fits; omega
  have hf1 : fits 1 := by unfold fits; omega
  have hfm : fits (-1) := by unfold fits; omega
  have hfx : fits 9223372036854775807 := by unfold fits; omega
  have hfn : fits (-9223372036854775808) := by unfold fits; omega
  go_enter Tryd.func13, Tryd.ntmps13
  go_wp2_with (first
    | (go_at_call 14; refine (add_yes _ _ 9223372036854775807 _ hfx hf0 (by omega) hfx).mono ?_; rintro e w' ⟨rfl, rfl⟩)
    | (go_at_call 15; refine (sub_no _ _ (-9223372036854775809) _ hfn hf1 (by omega) (by unfold fits; omega)).mono ?_; rintro e w' ⟨rfl, rfl⟩)
    | (go_at_call 16; refine (mul_no _ _ 9223372036854775808 _ hfn hfm (by omega) (by unfold fits; omega)).mono ?_; rintro e w' ⟨rfl, rfl⟩)
    | (go_at_call 22; refine (sum_nil _).mono ?_; rintro e w' ⟨rfl, rfl⟩)
    | (go_at_call 25; refine (gcd_nil _ (by repeat (first | assumption | apply Tab.alloc | apply Tab.drewN))).mono ?_; rintro e w' ⟨rfl, rfl⟩)
    | (go_at_call 27; ((with_reducible refine (lcm_nil _ ?_).mono ?_)); (repeat (first | assumption | apply Tab.alloc | apply Tab.drewN)); rintro e w' ⟨rfl, d, rfl⟩)
    | (go_at_call 27; refine (lcm_great _ _ (by simp) (by repeat (first | assumption | apply Tab.alloc | apply Tab.drewN))).mono ?_; rintro e w' ⟨rfl, d, rfl⟩)
    | (go_at_call 29; ((with_reducible refine (dot_nil _).mono ?_)); rintro e w' ⟨rfl, rfl⟩)
    | (go_at_call 29; refine (dot_one _ _ (by simp)).mono ?_; rintro e w' ⟨rfl, rfl⟩)
    | (go_at_call 20; refine (awake_any _ (by repeat (first | assumption | apply Tab.alloc | apply Tab.drewN))).mono ?_; rintro e w' ⟨rfl, hw⟩))
  go_ret
  exact ⟨rfl, Below.trans (by repeat (first | exact Below.refl _ _ | (refine Below.alloc ?_ (by simp; try omega) _) | refine Below.drewN ?_ _)) (hw.mono (by simp; omega))⟩
end Go.Proofs.YtlnbmjebkpkclaaDoor
