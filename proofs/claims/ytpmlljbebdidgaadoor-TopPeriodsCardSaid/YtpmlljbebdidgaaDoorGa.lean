/-
  lex.Name: is a text a name?
-/
import Derived.Test.YtpmlljbebdidgaaDoorM3
import Derived.Test.YtpmlljbebdidgaaDoorM2
namespace Go.Proofs.YtpmlljbebdidgaaDoor
open Go.RowKit

/-- a text's bytes as numbers -/
def bt (s : ByteArray) (k : Nat) : Int := if h : k < s.size then ((s[k]'h).toNat : Int) else 0
theorem get_bt (s : ByteArray) : ∀ (n : Nat) (h : n < s.size), ((s[n]'h).toNat : Int) = bt s n := fun n h => by unfold bt; rw [dif_pos h]
def letB (b : Int) : Bool := decide (97 ≤ b) && decide (b ≤ 122)
def digB (b : Int) : Bool := decide (48 ≤ b) && decide (b ≤ 57)
def insB (b : Int) : Bool := letB b || digB b || decide (b = 95)
/-- how far a text goes on being a name, from a place on -/
def insTo (s : ByteArray) : Nat → Nat → Nat
  | 0, k => k
  | f + 1, k => if k < s.size ∧ insB (bt s k) = true then insTo s f (k + 1) else k
def nameB (s : ByteArray) : Bool := letB (bt s 0) && decide (insTo s s.size 0 = s.size) && decide (s.size ≤ 16)

theorem letter_any (b : Int) (w : World) : Calls Tryd.prog 78 #[.int .u8 b] w fun e w' => e = .returned (.bool (letB b)) ∧ w = w' := by
  unfold letB
  by_cases h1 : 97 ≤ b
  · by_cases h2 : b ≤ 122
    · go_enter Tryd.func78, Tryd.ntmps78
      go_wp2
      go_ret
      first | (simp; omega) | omega
    · go_enter Tryd.func78, Tryd.ntmps78
      go_wp2
      go_ret
      first | (simp; omega) | omega
  · go_enter Tryd.func78, Tryd.ntmps78
    go_wp2
    go_ret
    first | (simp; omega) | omega
theorem digit_any (b : Int) (w : World) : Calls Tryd.prog 83 #[.int .u8 b] w fun e w' => e = .returned (.bool (digB b)) ∧ w = w' := by
  unfold digB
  by_cases h1 : 48 ≤ b
  · by_cases h2 : b ≤ 57
    · go_enter Tryd.func83, Tryd.ntmps83
      go_wp2
      go_ret
      first | (simp; omega) | omega
    · go_enter Tryd.func83, Tryd.ntmps83
      go_wp2
      go_ret
      first | (simp; omega) | omega
  · go_enter Tryd.func83, Tryd.ntmps83
    go_wp2
    go_ret
    first | (simp; omega) | omega
theorem inside_any (b : Int) (w : World) : Calls Tryd.prog 81 #[.int .u8 b] w fun e w' => e = .returned (.bool (insB b)) ∧ w = w' := by
  unfold insB
  obtain ⟨x, hx⟩ : ∃ x, letB b = x := ⟨_, rfl⟩
  obtain ⟨y, hy⟩ : ∃ y, digB b = y := ⟨_, rfl⟩
  rw [hx, hy]
  have Hx := Lib.hid hx
  have Hy := Lib.hid hy
  clear hx hy
  go_enter Tryd.func81, Tryd.ntmps81
  go_wp2_with fail
  refine (letter_any b w).mono ?_
  rintro e w1 ⟨rfl, hw1⟩
  subst hw1
  rw [Hx.out]
  cases x with
  | true =>
    go_wp2_with fail
    go_ret
    simp
  | false =>
    go_wp2_with fail
    refine (digit_any b w).mono ?_
    rintro e w2 ⟨rfl, hw2⟩
    subst hw2
    rw [Hy.out]
    cases y with
    | true =>
      go_wp2_with fail
      go_ret
      simp
    | false =>
      go_wp2_with fail
      go_ret
      by_cases h : b = 95 <;> simp [h]
set_option maxHeartbeats 1000000 in
theorem more_any (g : Nat) (s : ByteArray) (k : Nat) (w : World) (h0 : w.cell? ⟨g, 0, none⟩ = some (.string s)) (h1 : w.cell? ⟨g, 1, none⟩ = some (.int .i64 k)) :
    Calls Tryd.prog 82 #[.pointer (some ⟨g, 0, none⟩)] w fun e w' => e = .returned (.bool (decide (k < s.size))) ∧ Drawn w w' := by
  go_enter Tryd.func82, Tryd.ntmps82
  go_wp2
  go_region
  go_wp2
  go_ret
  exact ⟨rfl, (Drawn.refl w).drewN 1⟩
theorem peek_any (g : Nat) (s : ByteArray) (w : World) (h0 : w.cell? ⟨g, 0, none⟩ = some (.string s)) (h1 : w.cell? ⟨g, 1, none⟩ = some (.int .i64 0)) :
    Calls Tryd.prog 79 #[.pointer (some ⟨g, 0, none⟩), .int .i64 0] w fun e w' => e = .returned (.int .u8 (bt s 0)) ∧ Drawn w w' := by
  have hb := get_bt s
  by_cases hs : 0 < s.size
  · have hs2 : decide ((s.size : Int) ≤ 0) = false := decide_eq_false (by omega)
    have hs3 : (0 : Int) < (s.size : Int) := by omega
    have hs4 : ¬ s = ByteArray.empty := fun h => by rw [h] at hs; simp at hs
    go_enter Tryd.func79, Tryd.ntmps79
    go_wp2
    go_region
    go_wp2
    go_region
    go_wp2
    go_ret
    exact ⟨rfl, (Drawn.refl w).drewN 2⟩
  · have hs2 : s.size = 0 := by omega
    have hs3 : bt s 0 = 0 := by unfold bt; rw [dif_neg hs]
    rw [hs3]
    have hs4 : s = ByteArray.empty := ByteArray.size_eq_zero_iff.1 hs2
    subst hs4
    go_enter Tryd.func79, Tryd.ntmps79
    go_wp2
    go_region
    go_wp2
    go_ret
    exact ⟨rfl, (Drawn.refl w).drewN 1⟩
theorem insTo_le (s : ByteArray) : ∀ f k, k ≤ s.size → insTo s f k ≤ s.size := by
  intro f
  induction f with
  | zero => intro k hk; exact hk
  | succ f ih =>
    intro k hk
    simp only [insTo]
    split
    · exact ih _ (by omega)
    · exact hk
theorem insTo_step (s : ByteArray) {k : Nat} (hk : k < s.size) : insTo s (s.size - k) k = if insB (bt s k) = true then insTo s (s.size - (k + 1)) (k + 1) else k := by
  rw [show s.size - k = (s.size - (k + 1)) + 1 by omega]
  simp only [insTo]
  by_cases h : insB (bt s k) = true
  · rw [if_pos ⟨hk, h⟩, if_pos h]
  · rw [if_neg (fun hc => h hc.2), if_neg h]
set_option maxHeartbeats 1000000 in
theorem while_any (g : Nat) (s : ByteArray) (w : World) (hg : Blk w g 157 #[.string s, .int .i64 0]) (hs : s.size ≤ maxLen) :
    Calls Tryd.prog 80 #[.pointer (some ⟨g, 0, none⟩), .func (.func 81) #[] #[]] w fun e w' => e = .returned (.string (s.extract 0 (insTo s s.size 0))) ∧ Below g w w' := by
  have hb := get_bt s
  unfold maxLen at hs
  have g1 := hg.cell 1
  simp only [List.getElem?_toArray, List.getElem?_cons_zero, List.getElem?_cons_succ] at g1
  obtain ⟨K, hK⟩ : ∃ K, insTo s s.size 0 = K := ⟨_, rfl⟩
  have hKl : K ≤ s.size := by rw [← hK]; exact insTo_le s _ _ (by omega)
  rw [hK]
  have HK := Lib.hid hK
  clear hK
  go_enter Tryd.func80, Tryd.ntmps80
  go_wp2_with fail
  clear g1
  go_loopg [24] s.size (fun gg _ wr => ∃ k : Nat, k ≤ s.size ∧ gg = s.size - k ∧ Blk wr g 157 #[.string s, .int .i64 k] ∧ Hid (insTo s (s.size - k) k = K) ∧ Below g w wr)
  case atStart => exact ⟨0, by omega, by omega, hg, HK, Below.refl _ _⟩
  case round =>
    clear hg
    obtain ⟨k, hk, rfl, hg, hi, hbw⟩ := hrel
    have g0 := hg.cell 0
    have g1 := hg.cell 1
    simp only [List.getElem?_toArray, List.getElem?_cons_zero, List.getElem?_cons_succ] at g0 g1
    by_cases hks : k < s.size
    · have hst := insTo_step s hks
      rw [hi.out] at hst
      have h1 : (0 : Int) ≤ (k : Int) := by omega
      have h2 : (k : Int) < (s.size : Int) := by omega
      obtain ⟨b, hbk⟩ : ∃ b, bt s k = b := ⟨_, rfl⟩
      obtain ⟨r, hr⟩ : ∃ r, insB b = r := ⟨_, rfl⟩
      rw [hbk, hr] at hst
      have Hst := Lib.hid hst
      have hM := fun d => more_any g s k (wr.drewN d) g0 g1
      rw [decide_eq_true hks] at hM
      have HM := Lib.hid hM
      have hI := fun d => inside_any b (wr.drewN d)
      rw [hr] at hI
      have HI := Lib.hid hI
      clear hM hI
      have Hr := Lib.hid hr
      clear hst hr hi
      go_wp2_with fail
      go_quiet ((first | (go_at_call 82; exact quiet_drawn (HM.out _)) | (go_at_call 81; exact quiet_left (HI.out _))))
      generalize hW2 : World.drewN wr _ = W2
      have kg : Blk W2 g 157 #[.string s, .int .i64 k] := by rw [← hW2]; exact hg
      have b2 : Below g w W2 := by rw [← hW2]; exact Below.drewN hbw _
      have c0 := kg.cell 0
      have c1 := kg.cell 1
      simp only [List.getElem?_toArray, List.getElem?_cons_zero, List.getElem?_cons_succ] at c0 c1
      clear hg hbw hW2 g0 g1 HM HI hb
      cases r with
      | true =>
        have kn := kg.set 1 (.int .i64 ((k : Int) + 1))
        simp only [List.setIfInBounds_toArray, List.set_cons_zero, List.set_cons_succ] at kn
        have b3 := b2.setCell (p := ⟨g, 1, none⟩) (Nat.le_refl _) (.int .i64 ((k : Int) + 1))
        have f1 := kg.frozen 1
        have hw : IntKind.i64.wrap ((k : Int) + 1) = (k : Int) + 1 := IntWalk.i64_in _ (by omega)
        rw [if_pos rfl] at Hst
        have HKN := Lib.hid kn
        clear kn kg b2
        go_wp2_with fail
        go_roundg (s.size - (k + 1))
        case measure => omega
        case rel => exact ⟨k + 1, by omega, rfl, HKN.out, Hst.out.symm, b3⟩
      | false =>
        obtain rfl : K = k := by have := Hst.out; simpa using this
        have h3 : (K : Int) ≤ (s.size : Int) := by omega
        have h4 : (0 : Int) ≤ 0 := by omega
        go_wp2_with fail
        go_region
        go_wp2
        go_ret
        exact ⟨rfl, Below.drewN b2 1⟩
    · obtain rfl : k = s.size := by omega
      have hM := fun d => more_any g s s.size (wr.drewN d) g0 g1
      rw [decide_eq_false (Nat.lt_irrefl _)] at hM
      have HM := Lib.hid hM
      clear hM
      obtain rfl : K = s.size := by have := hi.out; rw [Nat.sub_self] at this; exact this.symm
      go_wp2_with fail
      go_quiet ((go_at_call 82; exact quiet_drawn (HM.out _)))
      generalize hW2 : World.drewN wr _ = W2
      have kg : Blk W2 g 157 #[.string s, .int .i64 s.size] := by rw [← hW2]; exact hg
      have b2 : Below g w W2 := by rw [← hW2]; exact Below.drewN hbw _
      have c0 := kg.cell 0
      have c1 := kg.cell 1
      simp only [List.getElem?_toArray, List.getElem?_cons_zero, List.getElem?_cons_succ] at c0 c1
      clear hg hbw hW2 g0 g1 HM hb
      have h3 : (0 : Int) ≤ (s.size : Int) := by omega
      go_wp2_with fail
      go_region
      go_wp2
      go_ret
      exact ⟨by rw [ByteArray.extract_zero_size]; rfl, Below.drewN b2 1⟩
set_option maxHeartbeats 1000000 in
theorem name_any (s : ByteArray) (w : World) (hs : s.size ≤ maxLen) :
    Calls Tryd.prog 69 #[.string s] w fun e w' => e = .returned (.bool (nameB s)) ∧ Below w.heap.size w w' := by
  have hnil := hs
  unfold maxLen at hs
  obtain ⟨B, hB⟩ : ∃ B, w.heap.size = B := ⟨_, rfl⟩
  rw [hB]
  have b1 := (Below.refl B w).alloc (by omega) (.cells #[.string s, .int .i64 0] 157)
  have k1 := Blk.new w B hB.symm 157 #[.string s, .int .i64 0]
  obtain ⟨r1, hr1⟩ : ∃ r, letB (bt s 0) = r := ⟨_, rfl⟩
  obtain ⟨K, hK⟩ : ∃ K, insTo s s.size 0 = K := ⟨_, rfl⟩
  have hKl : K ≤ s.size := by rw [← hK]; exact insTo_le s _ _ (by omega)
  have hxs : (s.extract 0 K).size = K := by rw [ByteArray.size_extract]; omega
  have hres : nameB s = (r1 && decide (K = s.size) && decide (s.size ≤ 16)) := by unfold nameB; rw [hr1, hK]
  rw [hres]
  have Hr1 := Lib.hid hr1
  have HK := Lib.hid hK
  clear hr1 hK hres
  go_enter Tryd.func69, Tryd.ntmps69
  go_wp2_with fail
  generalize hW1 : w.alloc (.cells #[.string s, .int .i64 0] 157) = W1 at *
  have c0 := k1.cell 0
  have c1 := k1.cell 1
  simp only [List.getElem?_toArray, List.getElem?_cons_zero, List.getElem?_cons_succ] at c0 c1
  refine (peek_any B s W1 c0 c1).mono ?_
  rintro e w2 ⟨rfl, hd2⟩
  have k2 := k1.below (hd2.below (B + 1)) (by omega)
  have b2 := b1.trans (hd2.below _)
  go_wp2_with fail
  refine (letter_any (bt s 0) w2).mono ?_
  rintro e w3 ⟨rfl, hw3⟩
  subst hw3
  rw [Hr1.out]
  clear c0 c1 hd2 k1 b1 hW1
  cases r1 with
  | false =>
    go_wp2_with fail
    go_ret
    exact ⟨by simp, b2⟩
  | true =>
    go_wp2_with fail
    refine (while_any B s w2 k2 hnil).mono ?_
    rintro e w4 ⟨rfl, hb4⟩
    rw [HK.out]
    have b4 := b2.trans hb4
    by_cases hKs : K = s.size
    · subst hKs
      have he : ((s.size : Int) == (s.size : Int)) = true := by simp
      have hd : decide (((s.extract 0 s.size).size : Int) = (s.size : Int)) = true := by rw [hxs]; simp
      by_cases h16 : s.size ≤ 16
      · go_wp2_with fail
        go_ret
        exact ⟨by simp; omega, b4⟩
      · go_wp2_with fail
        go_ret
        exact ⟨by simp; omega, b4⟩
    · have hd : ((K : Int) == (s.size : Int)) = false := by simp; omega
      go_wp2_with fail
      go_ret
      exact ⟨by simp [hKs], b4⟩
end Go.Proofs.YtpmlljbebdidgaaDoor
