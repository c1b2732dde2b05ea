/-
  Nets in memory; net.Check tells what the plain function tells.
-/
import Derived.Test.YtdogddngiolpoaaBa
import Derived.Deep.DeepCutAuto
namespace Go.Proofs.Ytdogddngiolpoaa
open Go.RowKit

/-- an arc: from, to, give, take, start -/
structure ArcV where
  f : Int
  t : Int
  g : Int
  k : Int
  s : Int
def ArcV.cells (a : ArcV) : List Value := [.int .i64 a.f, .int .i64 a.t, .int .i64 a.g, .int .i64 a.k, .int .i64 a.s]
def ArcV.fit (a : ArcV) : Prop := fits a.f ∧ fits a.t ∧ fits a.g ∧ fits a.k ∧ fits a.s
def cellsA (ars : List ArcV) : List Value := ars.flatMap ArcV.cells
theorem cellsA_cons (a : ArcV) (ars : List ArcV) : cellsA (a :: ars) = a.cells ++ cellsA ars := rfl
theorem cellsA_length (ars : List ArcV) : (cellsA ars).length = ars.length * 5 := by
  induction ars with
  | nil => rfl
  | cons a ars ih => rw [cellsA_cons, List.length_append, ih, List.length_cons]; simp [ArcV.cells]; omega
theorem cellsA_at (ars : List ArcV) : ∀ (k : Nat) (a : ArcV), ars[k]? = some a → ∀ j u, a.cells[j]? = some u → (cellsA ars)[k * 5 + j]? = some u := by
  induction ars with
  | nil => intro k a h; simp at h
  | cons b ars ih =>
    intro k a h j u hu
    rw [cellsA_cons]
    match k, h with
    | 0, h =>
      simp at h
      subst h
      have hj : j < b.cells.length := (List.getElem?_eq_some_iff.1 hu).1
      rw [Nat.zero_mul, Nat.zero_add, List.getElem?_append_left hj]; exact hu
    | k + 1, h =>
      rw [List.getElem?_append_right (by simp [ArcV.cells]; omega)]
      have e : (k + 1) * 5 + j - b.cells.length = k * 5 + j := by simp [ArcV.cells]; omega
      rw [e]
      exact ih k a (by simpa using h) j u hu
theorem Rd.arc {w : World} {B : Nat} {A : Option Addr} {ars : List ArcV} {k : Nat} (h : Rd w B A (cellsA ars)) (hx : ∀ a ∈ ars, a.fit) (hk : k < ars.length) :
    ∃ b off a, A = some ⟨b, off, none⟩ ∧ b < B ∧ a.fit ∧ w.cell? ⟨b, off + k * 5, none⟩ = some (.int .i64 a.f) ∧ w.cell? ⟨b, off + k * 5 + 1, none⟩ = some (.int .i64 a.t) ∧ w.cell? ⟨b, off + k * 5 + 2, none⟩ = some (.int .i64 a.g) ∧
      w.cell? ⟨b, off + k * 5 + 3, none⟩ = some (.int .i64 a.k) ∧ w.cell? ⟨b, off + k * 5 + 4, none⟩ = some (.int .i64 a.s) ∧ Hid (ars.drop k = a :: ars.drop (k + 1)) ∧ Hid (ars[k]? = some a) := by
  rcases h with h | ⟨b, off, ha, hb, hc⟩
  · have := cellsA_length ars; rw [h] at this; simp at this; omega
  · have hg : ars[k]? = some ars[k] := List.getElem?_eq_getElem hk
    have at_ : ∀ j u, ars[k].cells[j]? = some u → w.cell? ⟨b, off + (k * 5 + j), none⟩ = some u := fun j u hu' => hc (k * 5 + j) u (cellsA_at ars k ars[k] hg j u hu')
    refine ⟨b, off, ars[k], ha, hb, hx _ (List.getElem_mem _), ?_, ?_, ?_, ?_, ?_, List.drop_eq_getElem_cons hk, hg⟩
    · have := at_ 0 _ rfl; simpa [Nat.add_assoc] using this
    · have := at_ 1 _ rfl; simpa [Nat.add_assoc] using this
    · have := at_ 2 _ rfl; simpa [Nat.add_assoc] using this
    · have := at_ 3 _ rfl; simpa [Nat.add_assoc] using this
    · have := at_ 4 _ rfl; simpa [Nat.add_assoc] using this

/-- what is wrong with an arc: nought: nothing -/
def arcF (n : Int) (a : ArcV) : Int :=
  if a.f < 0 ∨ a.t < 0 ∨ n ≤ a.f ∨ n ≤ a.t then 100 else if a.g < 1 ∨ a.k < 1 ∨ 64 < a.g ∨ 64 < a.k then 101 else if a.s < 0 ∨ 256 < a.s then 88 else 0
def arcsF (n : Int) : List ArcV → Int
  | [] => 0
  | a :: ars => if arcF n a = 0 then arcsF n ars else arcF n a
def checkF (n : Int) (ars : List ArcV) : Int := if n < 1 ∨ 32 < n then 100 else if 96 < ars.length then 81 else arcsF n ars

set_option maxHeartbeats 1000000 in
theorem check_any (n : Int) (ars : List ArcV) (A : Option Addr) (l c : Nat) (w : World) (hl : ars.length = l) (hx : ∀ a ∈ ars, a.fit) (hr : Rd w w.heap.size A (cellsA ars)) (hm : l ≤ maxLen) :
    Calls Try.prog 36 #[.agg #[.int .i64 n, .slice A l c]] w fun e w' => e = .returned (.int .i64 (checkF n ars)) ∧ Below w.heap.size w w' := by
  subst hl
  unfold maxLen at hm
  have b0 : ∀ o, Below w.heap.size w (w.alloc o) := fun o => (Below.refl _ _).alloc (Nat.le_refl _) o
  by_cases h1 : n < 1
  · have e : checkF n ars = 100 := if_pos (.inl h1)
    rw [e]
    go_enter Try.func36, Try.ntmps36
    go_wp2
    go_ret
    exact ⟨rfl, b0 _⟩
  by_cases h2 : 32 < n
  · have e : checkF n ars = 100 := if_pos (.inr h2)
    rw [e]
    go_enter Try.func36, Try.ntmps36
    go_wp2
    go_ret
    exact ⟨rfl, b0 _⟩
  by_cases h3 : 96 < ars.length
  · have e : checkF n ars = 81 := by unfold checkF; rw [if_neg (by omega), if_pos h3]
    rw [e]
    go_enter Try.func36, Try.ntmps36
    go_wp2
    go_ret
    exact ⟨rfl, b0 _⟩
  have e : checkF n ars = arcsF n ars := by unfold checkF; rw [if_neg (by omega), if_neg h3]
  rw [e]
  clear e
  go_enter Try.func36, Try.ntmps36
  go_wp2
  go_loopw [20] (fun i wr => ∃ k : Nat, k ≤ ars.length ∧ i = .int .i64 k ∧ Below w.heap.size w wr ∧ Blk wr w.heap.size 24 #[.int .i64 n, .slice A ars.length c] ∧ Hid (arcsF n ars = arcsF n (ars.drop k))) (fun i _ => ars.length - (intOf i).toNat)
  case atStart => exact ⟨0, Nat.zero_le _, rfl, b0 _, Blk.new w _ rfl _ _, rfl⟩
  case round =>
    obtain ⟨k, hk, rfl, hb, kb, He⟩ := hrel
    have k0 := kb.cell 0
    have k1 := kb.cell 1
    simp at k0 k1
    by_cases hlt : k < ars.length
    · obtain ⟨b, off, a, rfl, hbl, hf, c0, c1, c2, c3, c4, hd, -⟩ := (hr.below hb (Nat.le_refl _)).arc hx hlt
      have hlt0 := kb.lt
      obtain ⟨W1, hW1⟩ : ∃ W1, wr.alloc (.cells #[.int .i64 a.f, .int .i64 a.t, .int .i64 a.g, .int .i64 a.k, .int .i64 a.s] 52) = W1 := ⟨_, rfl⟩
      have bn : Below w.heap.size w W1 := hW1 ▸ hb.alloc hb.size _
      have kn : Blk W1 w.heap.size 24 #[.int .i64 n, .slice (some ⟨b, off, none⟩) ars.length c] := hW1 ▸ kb.alloc _
      have ka : Blk W1 wr.heap.size 52 #[.int .i64 a.f, .int .i64 a.t, .int .i64 a.g, .int .i64 a.k, .int .i64 a.s] := hW1 ▸ Blk.new wr _ rfl _ _
      have n0 := kn.cell 0
      have d0 := ka.cell 0
      have d1 := ka.cell 1
      have d2 := ka.cell 2
      have d3 := ka.cell 3
      have d4 := ka.cell 4
      simp at n0 d0 d1 d2 d3 d4
      obtain ⟨p1, hp1⟩ : ∃ p, decide (a.f < 0 ∨ a.t < 0 ∨ n ≤ a.f ∨ n ≤ a.t) = p := ⟨_, rfl⟩
      obtain ⟨p2, hp2⟩ : ∃ p, decide (a.g < 1 ∨ a.k < 1 ∨ 64 < a.g ∨ 64 < a.k) = p := ⟨_, rfl⟩
      obtain ⟨p3, hp3⟩ : ∃ p, decide (a.s < 0 ∨ 256 < a.s) = p := ⟨_, rfl⟩
      have Hst : Hid (arcsF n ars = if p1 = true then 100 else if p2 = true then 101 else if p3 = true then 88 else arcsF n (ars.drop (k + 1))) := by
        unfold Hid
        rw [He.out, hd.out, arcsF, arcF, ← hp1, ← hp2, ← hp3]
        simp only [decide_eq_true_eq]
        split
        · rfl
        · split
          · rfl
          · split
            · rfl
            · rfl
      clear He hd kb k1 ka
      have Hp1 := Lib.hid hp1
      have Hp2 := Lib.hid hp2
      have Hp3 := Lib.hid hp3
      clear hp1 hp2 hp3
      go_upto_region 8 with fail
      try rw [hW1]
      clear hW1 c0 c1 c2 c3 c4 k0
      go_cut [24] (fun s wx => wx = W1 ∧ s = .bool p1)
      case first =>
        go_wp2_with fail
        all_goals go_meet
        all_goals (refine ⟨rfl, ?_⟩; rw [← Hp1.out]; first | (rw [decide_eq_true (by omega)]; done) | (rw [decide_eq_false (by omega)]; done) | (congr 1; rw [Bool.eq_iff_iff]; simp only [Bool.or_eq_true, decide_eq_true_eq] <;> omega))
      case rest =>
        obtain ⟨rfl, rfl⟩ := hcut
        clear Hp1
        cases p1
        · go_upto_region 10 with fail
          go_cut [41] (fun s wx => wx = wc ∧ s = .bool p2)
          case first =>
            go_wp2_with fail
            all_goals go_meet
            all_goals (refine ⟨rfl, ?_⟩; rw [← Hp2.out]; first | (rw [decide_eq_true (by omega)]; done) | (rw [decide_eq_false (by omega)]; done) | (congr 1; rw [Bool.eq_iff_iff]; simp only [Bool.or_eq_true, decide_eq_true_eq] <;> omega))
          case rest =>
            obtain ⟨rfl, rfl⟩ := hcut
            clear Hp2
            cases p2
            · go_upto_region 12 with fail
              go_cut [56] (fun s wx => wx = wc ∧ s = .bool p3)
              case first =>
                go_wp2_with fail
                all_goals go_meet
                all_goals (refine ⟨rfl, ?_⟩; rw [← Hp3.out]; first | (rw [decide_eq_true (by omega)]; done) | (rw [decide_eq_false (by omega)]; done) | (congr 1; rw [Bool.eq_iff_iff]; simp only [Bool.or_eq_true, decide_eq_true_eq] <;> omega))
              case rest =>
                obtain ⟨rfl, rfl⟩ := hcut
                clear Hp3
                cases p3
                · go_wp2
                  go_roundw
                  case rel => exact ⟨k + 1, by omega, by go_num, bn, kn, Hst⟩
                  case measure => simp [intOf]; omega
                · go_wp2
                  go_ret
                  exact ⟨by rw [Hst.out]; rfl, bn⟩
            · go_wp2
              go_ret
              exact ⟨by rw [Hst.out]; rfl, bn⟩
        · go_wp2
          go_ret
          exact ⟨by rw [Hst.out]; rfl, bn⟩
    · have hd : ars.drop k = [] := List.drop_eq_nil_of_le (by omega)
      have hst : arcsF n ars = 0 := by rw [He.out, hd]; rfl
      have Hst := Lib.hid hst
      clear hst hd He
      go_wp2
      go_ret
      exact ⟨by rw [Hst.out]; rfl, hb⟩
end Go.Proofs.Ytdogddngiolpoaa
