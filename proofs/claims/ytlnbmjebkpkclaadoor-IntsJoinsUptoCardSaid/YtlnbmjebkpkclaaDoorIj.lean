/-
  IntsDivides answers true at every list and every number.
-/
import Derived.Test.YtlnbmjebkpkclaaDoorIi
import Derived.Deep.DeepCutAuto
namespace Go.Proofs.YtlnbmjebkpkclaaDoor
open Go.RowKit

def someF (xs : List Int) : Bool := xs.any fun x => x != 0
def lowF (xs : List Int) : Bool := xs.all fun x => x == 0 || x == -9223372036854775808
def allF (d : Int) (xs : List Int) : Bool := xs.all fun x => d != 0 && x.tmod d == 0

theorem someF_cons (x : Int) (xs : List Int) : someF (x :: xs) = (x != 0 || someF xs) := rfl
theorem lowF_cons (x : Int) (xs : List Int) : lowF (x :: xs) = ((x == 0 || x == -9223372036854775808) && lowF xs) := rfl
theorem allF_cons (d x : Int) (xs : List Int) : allF d (x :: xs) = ((d != 0 && x.tmod d == 0) && allF d xs) := rfl

set_option maxRecDepth 100000 in
set_option maxHeartbeats 4000000 in
theorem divides_walk (xs : List Int) (d g : Int) (is : Bool) (A : Option Addr) (n c : Nat) (w : World) (hn : xs.length = n) (hc : n ≤ c) (hx : AllFit xs) (hd : fits d) (hr : Rd w w.heap.size A (cellsI xs)) (hz : c * 8 ≤ 140737488351232) (hT : Tab w)
    (HG : okOf (gcdFrom 0 xs) = g ∧ okB (gcdFrom 0 xs) = is) (Hin : Hid (is = true → ∀ x ∈ xs, (g = 0 → x = 0) ∧ (g ≠ 0 → x.tmod g = 0)))
    (He1 : Hid (is = false → g = 0 ∧ lowF xs = true ∧ someF xs = true)) (He2 : Hid (is = true → (lowF xs && someF xs) = false ∧ 0 ≤ g ∧ someF xs = decide (0 < g))) (He3 : Hid (is = true → allF d xs = true → d ≠ 0 → g.tmod d = 0)) :
    Calls Tryd.prog 9 #[.slice A n c, .int .i64 d] w fun e w' => e = .returned (.bool true) ∧ Below w.heap.size w w' := by
  subst hn
  have hnm : xs.length ≤ maxLen := by unfold maxLen; omega
  have hnm' := hnm
  unfold maxLen at hnm'
  go_enter Tryd.func9, Tryd.ntmps9
  go_wp2_with fail
  refine (ints_any xs A xs.length c w.heap.size w rfl hr (by omega)).mono ?_
  rintro e w1 ⟨A', c', rfl, hc', hr', hown, hb1⟩
  have hr1 := hr.below hb1 (Nat.le_refl _)
  have hT1 := hT.below hb1 hT.pos
  have HG' := Lib.hid HG
  clear HG
  go_wp2_with (go_at_call 25; refine (gcd_any xs _ xs.length _ _ _ rfl hx hr' hnm hT1).mono ?_; rintro e w' ⟨rfl, rfl⟩; rw [HG'.out.1, HG'.out.2])
  clear hr' hown hr HG'
  go_loop [7, 8, 9, 10] (fun a l s i => ∃ (k : Nat) (al lw sm : Bool), k ≤ xs.length ∧ i = .int .i64 k ∧ a = .bool al ∧ l = .bool lw ∧ s = .bool sm ∧ Hid (someF xs = (sm || someF (xs.drop k))) ∧ Hid (lowF xs = (lw && lowF (xs.drop k))) ∧ Hid (allF d xs = (al && allF d (xs.drop k)))) (fun _ _ _ i => xs.length - (intOf i).toNat)
  case atStart => exact ⟨0, true, true, false, Nat.zero_le _, rfl, rfl, rfl, rfl, rfl, rfl, rfl⟩
  case round =>
    obtain ⟨k, al, lw, sm, hk, rfl, rfl, rfl, rfl, Hs, Hl, Ha⟩ := hrel
    by_cases hlt : k < xs.length
    · obtain ⟨b, off, x, rfl, hb, hxk, hck, hdk, hxx⟩ := hr1.at_ hx hlt
      have hmem : x ∈ xs := List.mem_of_getElem? hxx.out
      have Hi := Lib.hid (fun h : is = true => Hin.out h x hmem)
      clear hmem
      go_upto_region 8 with fail
      go_cut [9] (fun s9 wx => wx = w1 ∧ ∃ sm', s9 = .bool sm' ∧ Hid (someF xs = (sm' || someF (xs.drop (k + 1)))))
      case first =>
        cases sm
        · by_cases hx0 : x = 0
          · subst hx0
            go_wp2_with fail
            go_meet
            exact ⟨rfl, false, rfl, by unfold Hid; rw [Hs.out, hdk.out, someF_cons]; rfl⟩
          · have hz1 : (x != 0) = true := by simpa using hx0
            have hz1' := Lib.hid hz1
            go_wp2_with fail
            go_meet
            exact ⟨rfl, true, rfl, by unfold Hid; rw [Hs.out, hdk.out, someF_cons, hz1'.out]; rfl⟩
        · go_wp2_with fail
          go_meet
          exact ⟨rfl, true, rfl, by unfold Hid; rw [Hs.out]; rfl⟩
      case rest =>
        obtain ⟨rfl, sm', rfl, Hs'⟩ := hcut
        clear Hs
        go_upto_region 9 with fail
        go_cut [8] (fun s8 wx => wx = wc ∧ ∃ lw', s8 = .bool lw' ∧ Hid (lowF xs = (lw' && lowF (xs.drop (k + 1)))))
        case first =>
          cases lw
          · go_wp2_with fail
            go_meet
            exact ⟨rfl, false, rfl, by unfold Hid; rw [Hl.out]; rfl⟩
          · by_cases hx0 : x = 0
            · subst hx0
              go_wp2_with fail
              go_meet
              exact ⟨rfl, true, rfl, by unfold Hid; rw [Hl.out, hdk.out, lowF_cons]; rfl⟩
            · by_cases hxm : x = -9223372036854775808
              · subst hxm
                go_wp2_with fail
                go_meet
                exact ⟨rfl, true, rfl, by unfold Hid; rw [Hl.out, hdk.out, lowF_cons]; rfl⟩
              · have z1 : (x == 0) = false := by simpa using hx0
                have z2 : (x == -9223372036854775808) = false := by simpa using hxm
                have z1' := Lib.hid z1
                have z2' := Lib.hid z2
                go_wp2_with fail
                go_meet
                exact ⟨rfl, false, rfl, by unfold Hid; rw [Hl.out, hdk.out, lowF_cons, z1'.out, z2'.out]; rfl⟩
        case rest =>
          obtain ⟨rfl, lw', rfl, Hl'⟩ := hcut
          clear Hl
          go_upto_region 10 with fail
          go_cut [7] (fun s7 wx => wx = wc ∧ ∃ al', s7 = .bool al' ∧ Hid (allF d xs = (al' && allF d (xs.drop (k + 1)))))
          case first =>
            cases al
            · go_wp2_with fail
              go_meet
              exact ⟨rfl, false, rfl, by unfold Hid; rw [Ha.out]; rfl⟩
            · by_cases hd0 : d = 0
              · subst hd0
                go_wp2_with fail
                go_meet
                exact ⟨rfl, false, rfl, by unfold Hid; rw [Ha.out, hdk.out, allF_cons]; rfl⟩
              · have z1 : (d != 0) = true := by simpa using hd0
                have z1' := Lib.hid z1
                have z2 : (d == 0) = false := by simpa using hd0
                obtain ⟨r, hrm⟩ : ∃ r, x.tmod d = r := ⟨_, rfl⟩
                have Hrm := Lib.hid hrm
                by_cases hr0 : r = 0
                · subst hr0
                  go_wp2_with fail
                  go_meet
                  exact ⟨rfl, true, rfl, by unfold Hid; rw [Ha.out, hdk.out, allF_cons, Hrm.out, z1'.out]; rfl⟩
                · have z3 : (r == 0) = false := by simpa using hr0
                  have z3' := Lib.hid z3
                  go_wp2_with fail
                  go_meet
                  exact ⟨rfl, false, rfl, by unfold Hid; rw [Ha.out, hdk.out, allF_cons, Hrm.out, z1'.out, z3'.out]; rfl⟩
          case rest =>
            obtain ⟨rfl, al', rfl, Ha'⟩ := hcut
            clear Ha
            cases is
            · go_wp2
              go_round
              case rel => exact ⟨k + 1, al', lw', sm', by omega, by go_num, rfl, rfl, rfl, Hs', Hl', Ha'⟩
              case measure => simp [intOf]; omega
            · by_cases hg0 : g = 0
              · subst hg0
                have hx0 := (Hi.out rfl).1 rfl
                subst hx0
                go_wp2
                go_round
                case rel => exact ⟨k + 1, al', lw', sm', by omega, by go_num, rfl, rfl, rfl, Hs', Hl', Ha'⟩
                case measure => simp [intOf]; omega
              · have z1 : (g == 0) = false := by simpa using hg0
                have z2 : (g != 0) = true := by simpa using hg0
                have z3 : x.tmod g = 0 := (Hi.out rfl).2 hg0
                go_wp2
                go_round
                case rel => exact ⟨k + 1, al', lw', sm', by omega, by go_num, rfl, rfl, rfl, Hs', Hl', Ha'⟩
                case measure => simp [intOf]; omega
    · have hdk : xs.drop k = [] := List.drop_eq_nil_of_le (by omega)
      have hs : someF xs = sm := by rw [Hs.out, hdk]; simp [someF]
      have hl : lowF xs = lw := by rw [Hl.out, hdk]; simp [lowF]
      have ha : allF d xs = al := by rw [Ha.out, hdk]; simp [allF]
      rw [hs, hl] at He1 He2
      rw [ha] at He3
      clear hs hl ha Hs Hl Ha hdk
      cases is
      · obtain ⟨rfl, rfl, rfl⟩ := He1.out rfl
        go_wp2_with (go_at_call 20; refine (awake_any _ hT1).mono ?_; rintro e w2 ⟨rfl, hb2⟩)
        go_ret
        exact ⟨rfl, hb1.trans (hb2.mono hb1.size)⟩
      · obtain ⟨q1, q2, q3⟩ := He2.out rfl
        have Q3 := Lib.hid (He3.out rfl)
        have hsm : sm = decide (0 < g) := q3
        clear He1 He2 He3 q3
        have hsl : (g = 0 ∧ sm = false) ∨ (0 < g ∧ sm = true ∧ lw = false) := by
          by_cases h0 : 0 < g
          · have h1 : sm = true := by rw [hsm]; exact decide_eq_true h0
            refine .inr ⟨h0, h1, ?_⟩
            rw [h1] at q1
            simpa using q1
          · exact .inl ⟨by omega, by rw [hsm]; exact decide_eq_false h0⟩
        clear hsm q1
        rcases hsl with ⟨rfl, rfl⟩ | ⟨hg, rfl, rfl⟩
        · cases lw <;> cases al
          · go_wp2_with (go_at_call 20; refine (awake_any _ hT1).mono ?_; rintro e w2 ⟨rfl, hb2⟩)
            go_ret
            exact ⟨rfl, hb1.trans (hb2.mono hb1.size)⟩
          · by_cases hd0 : d = 0
            · subst hd0
              go_wp2_with (go_at_call 20; refine (awake_any _ hT1).mono ?_; rintro e w2 ⟨rfl, hb2⟩)
              go_ret
              exact ⟨rfl, hb1.trans (hb2.mono hb1.size)⟩
            · have z1 : (d == 0) = false := by simpa using hd0
              go_wp2_with (go_at_call 20; refine (awake_any _ hT1).mono ?_; rintro e w2 ⟨rfl, hb2⟩)
              go_ret
              exact ⟨rfl, hb1.trans (hb2.mono hb1.size)⟩
          · go_wp2_with (go_at_call 20; refine (awake_any _ hT1).mono ?_; rintro e w2 ⟨rfl, hb2⟩)
            go_ret
            exact ⟨rfl, hb1.trans (hb2.mono hb1.size)⟩
          · by_cases hd0 : d = 0
            · subst hd0
              go_wp2_with (go_at_call 20; refine (awake_any _ hT1).mono ?_; rintro e w2 ⟨rfl, hb2⟩)
              go_ret
              exact ⟨rfl, hb1.trans (hb2.mono hb1.size)⟩
            · have z1 : (d == 0) = false := by simpa using hd0
              go_wp2_with (go_at_call 20; refine (awake_any _ hT1).mono ?_; rintro e w2 ⟨rfl, hb2⟩)
              go_ret
              exact ⟨rfl, hb1.trans (hb2.mono hb1.size)⟩
        · cases al
          · go_wp2_with (go_at_call 20; refine (awake_any _ hT1).mono ?_; rintro e w2 ⟨rfl, hb2⟩)
            go_ret
            exact ⟨rfl, hb1.trans (hb2.mono hb1.size)⟩
          · by_cases hd0 : d = 0
            · subst hd0
              go_wp2_with (go_at_call 20; refine (awake_any _ hT1).mono ?_; rintro e w2 ⟨rfl, hb2⟩)
              go_ret
              exact ⟨rfl, hb1.trans (hb2.mono hb1.size)⟩
            · have z1 : (d == 0) = false := by simpa using hd0
              have z2 : g.tmod d = 0 := Q3.out rfl hd0
              go_wp2_with (go_at_call 20; refine (awake_any _ hT1).mono ?_; rintro e w2 ⟨rfl, hb2⟩)
              go_ret
              exact ⟨rfl, hb1.trans (hb2.mono hb1.size)⟩
end Go.Proofs.YtlnbmjebkpkclaaDoor
