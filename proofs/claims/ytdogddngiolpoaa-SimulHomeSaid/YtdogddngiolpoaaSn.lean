/-
  pianolaref15.next.
-/
import Derived.Test.YtdogddngiolpoaaSm
namespace Go.Proofs.Ytdogddngiolpoaa
open Go.RowKit

def wantB (ars : List ArcV) (n : Nat) (F : Nat → Int) (rs : List Int) (x : Int) : Bool := decide (F x.toNat < repAt rs x) && mayB ars n F x
/-- the node of a line that fires next -/
def nextF (ars : List ArcV) (n : Nat) (F : Nat → Int) (rs : List Int) (line : List Int) : Int := (line.find? (wantB ars n F rs)).getD (-1)

set_option maxRecDepth 100000 in
set_option maxHeartbeats 4000000 in
theorem next_any (n : Nat) (ars : List ArcV) (F : Nat → Int) (A : Option Addr) (c g cf : Nat) (rs : List Int) (R : Option Addr) (cr : Nat) (line : List Int) (L : Option Addr) (l cl : Nat) (w : World) (hN : NetOk n ars) (hF : small n F) (hS : RSt w n ars F A g)
    (hrs : rs.length = n) (hfr : AllFit rs) (hrr : Rd w w.heap.size R (cellsI rs)) (hl : line.length = l) (hlm : l ≤ maxLen) (hin : ∀ x ∈ line, 0 ≤ x ∧ x < n) (hlr : Rd w w.heap.size L (cellsI line)) :
    Calls Try.prog 30 #[.agg #[.int .i64 n, .slice A ars.length c, .slice (some ⟨g, 0, none⟩) n cf], .slice R n cr, .slice L l cl] w fun e w' => e = .returned (.int .i64 (nextF ars n F rs line)) ∧ Below w.heap.size w w' := by
  subst hl
  have n32 := hN.n32
  unfold maxLen at hlm
  have hfl : AllFit line := fun x hx => by have := hin x hx; unfold fits; omega
  have HF := Lib.hid hF
  have HN := Lib.hid hN
  have HS := Lib.hid hS
  have Hin := Lib.hid hin
  have Hrs := Lib.hid hrs
  clear hF hN hS hin hrs
  obtain ⟨res, hres⟩ : ∃ r, nextF ars n F rs line = r := ⟨_, rfl⟩
  rw [hres]
  have Hres := Lib.hid hres
  clear hres
  have b1 : ∀ o, Below w.heap.size w (w.alloc o) := fun o => (Below.refl _ _).alloc (Nat.le_refl _) o
  go_enter Try.func30, Try.ntmps30
  go_wp2
  go_loopw [7] (fun i wr => ∃ k : Nat, k ≤ line.length ∧ i = .int .i64 k ∧ Below w.heap.size w wr ∧ Blk wr w.heap.size 61 #[.int .i64 n, .slice A ars.length c, .slice (some ⟨g, 0, none⟩) n cf] ∧ Hid (nextF ars n F rs line = nextF ars n F rs (line.drop k))) (fun i _ => line.length - (intOf i).toNat)
  case atStart => exact ⟨0, by omega, rfl, b1 _, Blk.new w _ rfl _ _, rfl⟩
  case round =>
    clear b1
    obtain ⟨k, hk, rfl, hb, kb, He⟩ := hrel
    have s0 := kb.cell 0
    have s1 := kb.cell 1
    have s2 := kb.cell 2
    simp at s0 s1 s2
    have hlw := kb.lt
    by_cases hlt : k < line.length
    · have S1 := HS.out.below hb
      obtain ⟨b, off, x, rfl, hbl, -, hc, hd, hxx⟩ := (hlr.below hb (Nat.le_refl _)).at_ hfl hlt
      obtain ⟨hx0, hxn⟩ := Hin.out x (List.mem_of_getElem? hxx.out)
      obtain ⟨v, rfl⟩ : ∃ v : Nat, x = v := ⟨x.toNat, by omega⟩
      have hv : v < n := by omega
      have hvr : v < rs.length := by rw [Hrs.out]; exact hv
      obtain ⟨b2, off2, x2, rfl, hbl2, -, -, -, -⟩ := (hrr.below hb (Nat.le_refl _)).at_ hfr hvr
      have hcr := rd_repAt (hrr.below hb (Nat.le_refl _)) hvr
      have hcf := S1.fir v hv
      have hgw := S1.lt
      obtain ⟨y, hy⟩ : ∃ y, F v = y := ⟨_, rfl⟩
      obtain ⟨r, hrp⟩ : ∃ r, repAt rs v = r := ⟨_, rfl⟩
      rw [hy] at hcf
      rw [hrp] at hcr
      have h1 : (0 : Int) ≤ (k : Int) := by omega
      have h2 : (k : Int) < (line.length : Int) := by omega
      have h3 : (0 : Int) ≤ (v : Int) := by omega
      have h4 : (v : Int) < (n : Int) := by omega
      have RA : ∀ W', Below wr.heap.size wr W' → RSt W' n ars F A g := fun W' hb' => S1.below hb'
      have Hw : Hid (wantB ars n F rs v = (decide (y < r) && mayB ars n F v)) := by unfold Hid wantB; rw [Int.toNat_natCast, hy, hrp]
      clear S1 hy hrp
      by_cases hyr : y < r
      · have Hw1 : Hid (wantB ars n F rs v = mayB ars n F v) := by unfold Hid; rw [Hw.out, decide_eq_true hyr, Bool.true_and]
        go_upto_region 4 with fail
        go_cut [37] (fun s37 wx => s37 = .bool (mayB ars n F v) ∧ Below wr.heap.size wr wx)
        case first =>
          go_region_held3 (fun w' => w'.cell? ⟨w.heap.size, 0, none⟩ = some (.int .i64 n) ∧ w'.cell? ⟨w.heap.size, 1, none⟩ = some (.slice A ars.length c) ∧ w'.cell? ⟨w.heap.size, 2, none⟩ = some (.slice (some ⟨g, 0, none⟩) n cf) ∧ w'.cell? ⟨b, off + k, none⟩ = some (.int .i64 v) ∧ w'.cell? ⟨b2, off2 + v, none⟩ = some (.int .i64 r) ∧ w'.cell? ⟨g, v, none⟩ = some (.int .i64 y))
            (go_keep)
            (first
              | (go_at_call 42; refine (rMay_any v n ars F _ c g cf _ HN.out HF.out ?_).mono ?_; exact RA _ (Below.drewN (Below.refl _ _) 1); rintro e' w4 ⟨rfl, hb4⟩; have q0 : w4.cell? ⟨w.heap.size, 0, none⟩ = some (.int .i64 n) := (hb4.cell (p := ⟨w.heap.size, 0, none⟩) (by simp; omega)).trans (by simp [*]); have q1 : w4.cell? ⟨w.heap.size, 1, none⟩ = some (.slice A ars.length c) := (hb4.cell (p := ⟨w.heap.size, 1, none⟩) (by simp; omega)).trans (by simp [*]); have q2 : w4.cell? ⟨w.heap.size, 2, none⟩ = some (.slice (some ⟨g, 0, none⟩) n cf) := (hb4.cell (p := ⟨w.heap.size, 2, none⟩) (by simp; omega)).trans (by simp [*]); have q3 : w4.cell? ⟨b, off + k, none⟩ = some (.int .i64 v) := (hb4.cell (p := ⟨b, off + k, none⟩) (by simp; omega)).trans (by simp [*]); have q4 : w4.cell? ⟨b2, off2 + v, none⟩ = some (.int .i64 r) := (hb4.cell (p := ⟨b2, off2 + v, none⟩) (by simp; omega)).trans (by simp [*]); have q5 : w4.cell? ⟨g, v, none⟩ = some (.int .i64 y) := (hb4.cell (p := ⟨g, v, none⟩) (by simp; omega)).trans (by simp [*])))
          go_wp2
          go_meet
          exact ⟨rfl, (Below.drewN (Below.refl _ wr) 1).trans hb4⟩
        case rest =>
          obtain ⟨rfl, hb2⟩ := hcut
          have hb3 := hb.trans (hb2.mono hb.size)
          have kb3 := kb.below hb2 hlw
          have hcx := (hb2.cell (p := ⟨b, off + k, none⟩) (by have := hb.size; simp; omega)).trans hc
          clear RA hc hcr hcf s0 s1 s2
          by_cases hmay : mayB ars n F v = true
          · rw [hmay]
            have he : res = v := by
              rw [← Hres.out, He.out]; unfold nextF
              rw [hd.out, List.find?_cons_of_pos (by rw [Hw1.out]; exact hmay)]; rfl
            subst he
            go_wp2
            go_ret
            exact ⟨rfl, hb3⟩
          · have hmf : mayB ars n F v = false := by simpa using hmay
            rw [hmf]
            have He' : Hid (nextF ars n F rs line = nextF ars n F rs (line.drop (k + 1))) := by
              unfold Hid; rw [He.out]; unfold nextF
              rw [hd.out, List.find?_cons_of_neg (by rw [Hw1.out]; exact hmay)]
            clear He hd Hw Hw1
            go_wp2
            go_roundw
            case rel => exact ⟨k + 1, by omega, by go_num, hb3, kb3, He'⟩
            case measure => simp [intOf]; omega
      · have hyr2 : r ≤ y := by omega
        have He' : Hid (nextF ars n F rs line = nextF ars n F rs (line.drop (k + 1))) := by
          unfold Hid; rw [He.out]; unfold nextF
          rw [hd.out, List.find?_cons_of_neg (by rw [Hw.out, decide_eq_false hyr]; simp)]
        have hdf : decide (y < r) = false := decide_eq_false hyr
        clear He hd Hw RA
        go_upto_region 4 with fail
        go_quiet (fail)
        go_wp2
        go_roundw
        case rel => exact ⟨k + 1, by omega, by go_num, Below.drewN hb _, kb, He'⟩
        case measure => simp [intOf]; omega
    · have he : res = -1 := by rw [← Hres.out, He.out, List.drop_eq_nil_of_le (by omega)]; rfl
      subst he
      go_wp2
      go_ret
      exact ⟨rfl, hb⟩
end Go.Proofs.Ytdogddngiolpoaa
