/-
  simul.run: its memory; best.
-/
import Derived.Test.YtpmlljbebdidgaaDoorSf
import Derived.BigQuiet
import Derived.Deep.QuietTactic
namespace Go.Proofs.YtpmlljbebdidgaaDoor
open Go.RowKit

theorem quiet_of_drawn {P : Program} {f : FuncId} {args : Array Value} {w : World} {n : Nat} {v : Value}
    (h : Calls P f args (w.drewN n) fun e w' => e = .returned v ∧ Drawn (w.drewN n) w') : Calls P f args (w.drewN n) fun e w'' => e = .returned v ∧ ∃ m, w'' = w.drewN m :=
  h.mono fun _ _ ⟨he, hd⟩ => ⟨he, Drawn.trans ⟨n, rfl⟩ hd⟩
/-- where a run lies: its block, what is left, the ranks -/
structure RM where
  gr : Nat
  gl : Nat
  cl : Nat
  gk : Nat
/-- a period that is being built, in memory; v: its list -/
structure RunT (w : World) (B : Nat) (r : RM) (s : SM) (n : Nat) (ars : List ArcV) (F Lf K : Nat → Int) (v : Value) : Prop where
  blk : Blk w r.gr 93 #[.pointer (some ⟨s.gs, 0, none⟩), .slice (some ⟨r.gl, 0, none⟩) n r.cl, .slice (some ⟨r.gk, 0, none⟩) n n, v]
  st : St w B s n ars F
  lef : w.ownsRow B 3 1 (.slice (some ⟨r.gl, 0, none⟩) n r.cl) n (cellsI (rowF Lf n))
  rnk : w.ownsRow B 3 1 (.slice (some ⟨r.gk, 0, none⟩) n n) n (cellsI (rowF K n))
/-- the node that fires next -/
def bestStep (ars : List ArcV) (n : Nat) (F Lf K : Nat → Int) (v : Int) (x : Nat) : Int := if 0 < Lf x ∧ mayB ars n F x = true ∧ (v < 0 ∨ K x < K v.toNat) then x else v
def bestF (ars : List ArcV) (n : Nat) (F Lf K : Nat → Int) (k : Nat) : Int := (List.range k).foldl (bestStep ars n F Lf K) (-1)
theorem bestF_succ (ars : List ArcV) (n : Nat) (F Lf K : Nat → Int) (k : Nat) : bestF ars n F Lf K (k + 1) = bestStep ars n F Lf K (bestF ars n F Lf K k) k := by
  unfold bestF
  rw [List.range_succ, List.foldl_append]; rfl
theorem bestF_lt (ars : List ArcV) (n : Nat) (F Lf K : Nat → Int) (k : Nat) : -1 ≤ bestF ars n F Lf K k ∧ bestF ars n F Lf K k < k := by
  induction k with
  | zero => simp [bestF]
  | succ k ih =>
    rw [bestF_succ]
    unfold bestStep
    split
    · omega
    · omega

set_option maxRecDepth 100000 in
set_option maxHeartbeats 4000000 in
theorem best_any (n : Nat) (ars : List ArcV) (F Lf K : Nat → Int) (B : Nat) (r : RM) (s : SM) (v : Value) (w : World) (hN : NetOk n ars) (hF : small n F) (hR : RunT w B r s n ars F Lf K v) :
    Calls Tryd.prog 28 #[.pointer (some ⟨r.gr, 0, none⟩)] w fun e w' => e = .returned (.int .i64 (bestF ars n F Lf K n)) ∧ Drawn w w' := by
  have n32 := hN.n32
  have c0 := hR.blk.cell 0
  have c1 := hR.blk.cell 1
  have c2 := hR.blk.cell 2
  simp only [List.getElem?_toArray, List.getElem?_cons_zero, List.getElem?_cons_succ] at c0 c1 c2
  obtain ⟨res, hres⟩ : ∃ r, bestF ars n F Lf K n = r := ⟨_, rfl⟩
  rw [hres]
  have HN := Lib.hid hN
  have HF := Lib.hid hF
  have HR := Lib.hid hR
  have Hres := Lib.hid hres
  clear hN hF hR hres
  go_enter Tryd.func28, Tryd.ntmps28
  go_wp2_with fail
  go_loopw [3, 10] (fun b i wr => ∃ k : Nat, k ≤ n ∧ i = .int .i64 k ∧ b = .int .i64 (bestF ars n F Lf K k) ∧ Drawn w wr) (fun _ i _ => n - (intOf i).toNat)
  case atStart => exact ⟨0, by omega, rfl, rfl, Drawn.refl w⟩
  case round =>
    obtain ⟨k, hk, rfl, rfl, hd⟩ := hrel
    by_cases hlt : k < n
    · obtain ⟨b, hb⟩ : ∃ b, bestF ars n F Lf K k = b := ⟨_, rfl⟩
      have hlim := bestF_lt ars n F Lf K k
      have hstep := bestF_succ ars n F Lf K k
      rw [hb] at hlim hstep ⊢
      have cl := (hd.cell _).trans (own_firCell HR.out.lef hlt)
      have ck := (hd.cell _).trans (own_firCell HR.out.rnk hlt)
      have d0 := (hd.cell _).trans c0
      have d1 := (hd.cell _).trans c1
      have d2 := (hd.cell _).trans c2
      obtain ⟨lk, hlk⟩ : ∃ lk, Lf k = lk := ⟨_, rfl⟩
      obtain ⟨kk, hkk⟩ : ∃ kk, K k = kk := ⟨_, rfl⟩
      unfold bestStep at hstep
      rw [hlk] at cl hstep
      rw [hkk] at ck hstep
      have Hb := Lib.hid hb
      clear hb hlk hkk
      have h1 : (0 : Int) ≤ (k : Int) := by omega
      have h2 : (k : Int) < (n : Int) := by omega
      have hS : ∀ m, St (wr.drewN m) B s n ars F := fun m => HR.out.st.drawn (hd.drewN m)
      by_cases hl : 0 < lk
      · have hm := fun m => may_any k n ars F B s (wr.drewN m) HN.out HF.out (hS m)
        clear hS
        by_cases hmay : mayB ars n F k = true
        · rw [hmay] at hm
          by_cases hbn : b < 0
          · have hs : bestF ars n F Lf K (k + 1) = k := by rw [hstep, if_pos ⟨hl, hmay, .inl hbn⟩]
            clear hstep
            go_wp2_with fail
            go_quiet ((go_at_call 32; exact quiet_of_drawn (hm _)))
            go_wp2
            go_roundw
            case rel => exact ⟨k + 1, by omega, by go_num, by rw [hs], hd.drewN _⟩
            case measure => simp [intOf]; omega
          · obtain ⟨j, rfl⟩ : ∃ j : Nat, b = j := ⟨b.toNat, by omega⟩
            have hj : j < n := by omega
            have cj := (hd.cell _).trans (own_firCell HR.out.rnk hj)
            obtain ⟨kj, hkj⟩ : ∃ kj, K j = kj := ⟨_, rfl⟩
            rw [Int.toNat_natCast, hkj] at hstep
            rw [hkj] at cj
            have hdb : decide ((j : Int) < 0) = false := decide_eq_false hbn
            have h3 : (0 : Int) ≤ (j : Int) := by omega
            have h4 : (j : Int) < (n : Int) := by omega
            clear hkj hbn
            by_cases hkk : kk < kj
            · have hs : bestF ars n F Lf K (k + 1) = k := by rw [hstep, if_pos ⟨hl, hmay, .inr hkk⟩]
              clear hstep
              go_wp2_with fail
              go_quiet ((go_at_call 32; exact quiet_of_drawn (hm _)))
              go_wp2
              go_roundw
              case rel => exact ⟨k + 1, by omega, by go_num, by rw [hs], hd.drewN _⟩
              case measure => simp [intOf]; omega
            · have hs : bestF ars n F Lf K (k + 1) = j := by rw [hstep, if_neg (by intro h; rcases h.2.2 with h | h <;> omega)]
              have hkk2 : kj ≤ kk := by omega
              clear hstep
              go_wp2_with fail
              go_quiet ((go_at_call 32; exact quiet_of_drawn (hm _)))
              go_wp2
              go_roundw
              case rel => exact ⟨k + 1, by omega, by go_num, by rw [hs], hd.drewN _⟩
              case measure => simp [intOf]; omega
        · have hmf : mayB ars n F k = false := by simpa using hmay
          rw [hmf] at hm
          have hs : bestF ars n F Lf K (k + 1) = b := by rw [hstep, if_neg (fun h => hmay h.2.1)]
          clear hstep
          go_wp2_with fail
          go_quiet ((go_at_call 32; exact quiet_of_drawn (hm _)))
          go_wp2
          go_roundw
          case rel => exact ⟨k + 1, by omega, by go_num, by rw [hs], hd.drewN _⟩
          case measure => simp [intOf]; omega
      · have hs : bestF ars n F Lf K (k + 1) = b := by rw [hstep, if_neg (fun h => hl h.1)]
        have hl0 : decide (0 < lk) = false := decide_eq_false hl
        have hl2 : lk ≤ 0 := by omega
        clear hstep hS
        go_wp2_with fail
        go_quiet (fail)
        go_wp2
        go_roundw
        case rel => exact ⟨k + 1, by omega, by go_num, by rw [hs], hd.drewN _⟩
        case measure => simp [intOf]; omega
    · obtain rfl : k = n := by omega
      have hres := Hres.out
      rw [hres]
      go_wp2
      go_ret
      exact ⟨rfl, hd⟩
end Go.Proofs.YtpmlljbebdidgaaDoor
