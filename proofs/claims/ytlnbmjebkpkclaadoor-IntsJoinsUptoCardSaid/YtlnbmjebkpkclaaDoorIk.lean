/-
  IntsMultiple answers true at every list and every number: the walk, under what the plain law gives.
-/
import Derived.Test.YtlnbmjebkpkclaaDoorIj
namespace Go.Proofs.YtlnbmjebkpkclaaDoor
open Go.RowKit

def zeroF (xs : List Int) : Bool := xs.any fun x => x == 0
def dvdF (m : Int) (xs : List Int) : Bool := xs.all fun x => x != 0 && m.tmod x == 0
theorem zeroF_cons (x : Int) (xs : List Int) : zeroF (x :: xs) = (x == 0 || zeroF xs) := rfl
theorem dvdF_cons (m x : Int) (xs : List Int) : dvdF m (x :: xs) = ((x != 0 && m.tmod x == 0) && dvdF m xs) := rfl

set_option maxRecDepth 100000 in
set_option maxHeartbeats 4000000 in
theorem multiple_walk (xs : List Int) (m l : Int) (is : Bool) (A : Option Addr) (n c : Nat) (w : World) (hn : xs.length = n) (hc : n ≤ c) (hx : AllFit xs) (_hm : fits m) (hr : Rd w w.heap.size A (cellsI xs)) (hz : c * 8 ≤ 140737488351232) (hT : Tab w)
    (HG : (lcmGo 1 true xs).1 = l ∧ (lcmGo 1 true xs).2 = is) (Hin : Hid (is = true → ∀ x ∈ xs, x ≠ 0 → l.tmod x = 0))
    (He1 : Hid (zeroF xs = true → is = true ∧ l = 0)) (He2 : Hid (zeroF xs = false → (is = true → 1 ≤ l) ∧ (is = false → l = 0)))
    (He3 : Hid (zeroF xs = false → (decide (0 < m) && dvdF m xs) = true → is = true ∧ m.tmod l = 0)) :
    Calls Tryd.prog 10 #[.slice A n c, .int .i64 m] w fun e w' => e = .returned (.bool true) ∧ Below w.heap.size w w' := by
  subst hn
  have hnm : xs.length ≤ maxLen := by unfold maxLen; omega
  have hnm' := hnm
  unfold maxLen at hnm'
  go_enter Tryd.func10, Tryd.ntmps10
  go_wp2_with fail
  refine (ints_any xs A xs.length c w.heap.size w rfl hr (by omega)).mono ?_
  rintro e w1 ⟨A', c', rfl, hc', hr', hown, hb1⟩
  have hr1 := hr.below hb1 (Nat.le_refl _)
  have hT1 := hT.below hb1 hT.pos
  have HG' := Lib.hid HG
  clear HG
  go_wp2_with fail
  refine (lcm_any xs _ xs.length _ _ _ rfl hx hr' hnm hT1).mono ?_
  rintro e w2 ⟨rfl, hd2⟩
  rw [HG'.out.1, HG'.out.2]
  have hr2 := hd2.rd hr1
  have hT2 := hd2.tab hT1
  have hb2 := hb1.trans (hd2.below w.heap.size)
  clear hr' hown hr HG' hr1 hT1 hd2 hb1
  go_wp2
  go_loop [7, 8, 9] (fun z a i => ∃ (k : Nat) (zr al : Bool), k ≤ xs.length ∧ i = .int .i64 k ∧ z = .bool zr ∧ a = .bool al ∧ Hid (zeroF xs = (zr || zeroF (xs.drop k))) ∧ Hid ((decide (0 < m) && dvdF m xs) = (al && dvdF m (xs.drop k)))) (fun _ _ i => xs.length - (intOf i).toNat)
  case atStart => exact ⟨0, false, decide (0 < m), Nat.zero_le _, rfl, rfl, rfl, rfl, rfl⟩
  case round =>
    obtain ⟨k, zr, al, hk, rfl, rfl, rfl, Hz, Ha⟩ := hrel
    by_cases hlt : k < xs.length
    · obtain ⟨b, off, x, rfl, hb, hxk, hck, hdk, hxx⟩ := hr2.at_ hx hlt
      have hmem : x ∈ xs := List.mem_of_getElem? hxx.out
      by_cases hx0 : x = 0
      · subst hx0
        have Hz' : Hid (zeroF xs = (true || zeroF (xs.drop (k + 1)))) := by unfold Hid; rw [Hz.out, hdk.out, zeroF_cons]; cases zr <;> rfl
        have Ha' : Hid ((decide (0 < m) && dvdF m xs) = (false && dvdF m (xs.drop (k + 1)))) := by unfold Hid; rw [Ha.out, hdk.out, dvdF_cons]; cases al <;> rfl
        clear Hz Ha hdk hmem hxx
        go_wp2
        go_round
        case rel => exact ⟨k + 1, true, false, by omega, by go_num, rfl, rfl, Hz', Ha'⟩
        case measure => simp [intOf]; omega
      · have z1 : (x == 0) = false := by simpa using hx0
        have z2 : (x != 0) = true := by simpa using hx0
        have Hz' : Hid (zeroF xs = (zr || zeroF (xs.drop (k + 1)))) := by unfold Hid; rw [Hz.out, hdk.out, zeroF_cons, z1]; rfl
        clear z2
        obtain ⟨r, hrm⟩ : ∃ r, m.tmod x = r := ⟨_, rfl⟩
        by_cases hr0 : r = 0
        · subst hr0
          have Ha' : Hid ((decide (0 < m) && dvdF m xs) = (al && dvdF m (xs.drop (k + 1)))) := by
            unfold Hid; rw [Ha.out, hdk.out, dvdF_cons, hrm, show (x != 0) = true by simpa using hx0]; rfl
          cases is
          · clear Hz Ha hdk hmem hxx Hin
            go_wp2
            go_round
            case rel => exact ⟨k + 1, zr, al, by omega, by go_num, rfl, rfl, Hz', Ha'⟩
            case measure => simp [intOf]; omega
          · have hl0 : l.tmod x = 0 := Hin.out rfl x hmem hx0
            clear Hz Ha hdk hmem hxx
            go_wp2
            go_round
            case rel => exact ⟨k + 1, zr, al, by omega, by go_num, rfl, rfl, Hz', Ha'⟩
            case measure => simp [intOf]; omega
        · have z3 : (r == 0) = false := by simpa using hr0
          have z4 : (r != 0) = true := by simpa using hr0
          have Ha' : Hid ((decide (0 < m) && dvdF m xs) = (false && dvdF m (xs.drop (k + 1)))) := by
            unfold Hid; rw [Ha.out, hdk.out, dvdF_cons, hrm, z3]; cases al <;> simp
          clear z3
          cases is
          · clear Hz Ha hdk hmem hxx Hin
            go_wp2
            go_round
            case rel => exact ⟨k + 1, zr, false, by omega, by go_num, rfl, rfl, Hz', Ha'⟩
            case measure => simp [intOf]; omega
          · have hl0 : l.tmod x = 0 := Hin.out rfl x hmem hx0
            clear Hz Ha hdk hmem hxx
            go_wp2
            go_round
            case rel => exact ⟨k + 1, zr, false, by omega, by go_num, rfl, rfl, Hz', Ha'⟩
            case measure => simp [intOf]; omega
    · have hdk : xs.drop k = [] := List.drop_eq_nil_of_le (by omega)
      have hz1 : zeroF xs = zr := by rw [Hz.out, hdk]; simp [zeroF]
      have ha1 : (decide (0 < m) && dvdF m xs) = al := by rw [Ha.out, hdk]; simp [dvdF]
      rw [hz1] at He1 He2 He3
      rw [ha1] at He3
      clear hz1 ha1 Hz Ha hdk Hin
      cases zr
      · have q2 := He2.out rfl
        have q3 := He3.out rfl
        clear He1 He2 He3
        cases al
        · cases is
          · obtain rfl := q2.2 rfl
            clear q2 q3
            go_wp2_with (go_at_call 20; refine (awake_any _ hT2).mono ?_; rintro e w3 ⟨rfl, hb3⟩)
            go_ret
            exact ⟨rfl, hb2.trans (hb3.mono hb2.size)⟩
          · have hl1 := q2.1 rfl
            clear q2 q3
            go_wp2_with (go_at_call 20; refine (awake_any _ hT2).mono ?_; rintro e w3 ⟨rfl, hb3⟩)
            go_ret
            exact ⟨rfl, hb2.trans (hb3.mono hb2.size)⟩
        · obtain ⟨rfl, hml⟩ := q3 rfl
          have hl1 := q2.1 rfl
          clear q2 q3
          go_wp2_with (go_at_call 20; refine (awake_any _ hT2).mono ?_; rintro e w3 ⟨rfl, hb3⟩)
          go_ret
          exact ⟨rfl, hb2.trans (hb3.mono hb2.size)⟩
      · obtain ⟨rfl, rfl⟩ := He1.out rfl
        clear He1 He2 He3
        go_wp2_with (go_at_call 20; refine (awake_any _ hT2).mono ?_; rintro e w3 ⟨rfl, hb3⟩)
        go_ret
        exact ⟨rfl, hb2.trans (hb3.mono hb2.size)⟩
end Go.Proofs.YtlnbmjebkpkclaaDoor
