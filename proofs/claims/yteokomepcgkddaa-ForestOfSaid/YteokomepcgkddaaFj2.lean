/-
  The law's 'joined', over the forest's arcs.
-/
import Derived.Test.YteokomepcgkddaaFj
import Derived.IntWalk
namespace Go.Proofs.Yteokomepcgkddaa
open Go.RowKit

theorem rootsK_length (up : List Int) (k : Nat) : (rootsK up k).length = k := by simp [rootsK]
theorem rootsK_at {up : List Int} {n v : Nat} (h : v < n) : (rootsK up n)[v]? = some (root up v : Int) := by simp [rootsK, h]
def mix (up up' : List Int) (n j : Nat) : List Int := rootsK up' j ++ (rootsK up n).drop j
theorem mix_length {up up' : List Int} {n j : Nat} (h : j ≤ n) : (mix up up' n j).length = n := by simp [mix, rootsK_length]; omega
theorem mix_drop {up : List Int} {n j : Nat} (h : j < n) : (rootsK up n).drop j = (root up j : Int) :: (rootsK up n).drop (j + 1) := by
  have hl : j < (rootsK up n).length := by rw [rootsK_length]; exact h
  rw [List.drop_eq_getElem_cons hl]
  have := rootsK_at (up := up) h
  rw [List.getElem?_eq_getElem hl] at this
  rw [Option.some.inj this]
theorem mix_at {up up' : List Int} {n j : Nat} (h : j < n) : (mix up up' n j)[j]? = some (root up j : Int) := by
  unfold mix
  rw [List.getElem?_append_right (by rw [rootsK_length]; exact Nat.le_refl _), rootsK_length, Nat.sub_self, mix_drop h]
  rfl
theorem rootsK_succ (up : List Int) (j : Nat) : rootsK up (j + 1) = rootsK up j ++ [(root up j : Int)] := by simp [rootsK, List.range_succ]
theorem mix_set {up up' : List Int} {n j : Nat} (h : j < n) : (mix up up' n j).set j (root up' j : Nat) = mix up up' n (j + 1) := by
  unfold mix
  rw [List.set_append_right _ _ (by rw [rootsK_length]; exact Nat.le_refl _), rootsK_length, Nat.sub_self, mix_drop h, List.set_cons_zero, rootsK_succ, List.append_assoc]
  rfl
theorem mix_same {up up' : List Int} {n j : Nat} (h : j < n) (he : root up' j = root up j) : mix up up' n j = mix up up' n (j + 1) := by
  rw [← mix_set h]
  have := mix_at (up := up) (up' := up') h
  rw [he]
  obtain ⟨hl, hv⟩ := List.getElem?_eq_some_iff.1 this
  rw [← hv, List.set_getElem_self]
theorem mix_zero (up up' : List Int) (n : Nat) : mix up up' n 0 = rootsK up n := rfl
theorem mix_end (up up' : List Int) (n : Nat) : mix up up' n n = rootsK up' n := by
  unfold mix
  rw [List.drop_eq_nil_of_le (by rw [rootsK_length]; exact Nat.le_refl _), List.append_nil]

set_option maxRecDepth 100000 in
set_option maxHeartbeats 4000000 in
theorem joined_any (n : Nat) (ars : List ArcV) (A : Option Addr) (l c : Nat) (At : Option Addr) (ct : Nat) (w : World) (hl : ars.length = l) (hx : ∀ a ∈ ars, a.fit) (hr : Rd w w.heap.size A (cellsA ars)) (hc : checkF n ars = 0) (rt : Rd w w.heap.size At (cellsI (treeF n ars))) :
    Calls Try.prog 19 #[.agg #[.int .i64 n, .slice A l c], .slice At (treeF n ars).length ct] w fun e w' => ∃ g, e = .returned (.tuple #[.slice (some ⟨g, 0, none⟩) n n, .bool true]) ∧ w'.ownsRow w.heap.size 3 1 (.slice (some ⟨g, 0, none⟩) n n) n (cellsI (homeF n ars)) ∧ Below w.heap.size w w' := by
  obtain ⟨i0, hi, hz0, hz1, hz2⟩ := info_parts info_int
  have b1 := (Below.refl w.heap.size w).alloc (Nat.le_refl _) (.cells #[.int .i64 n, .slice A l c] 24)
  have kb := Blk.new w _ rfl 24 #[.int .i64 n, .slice A l c]
  obtain ⟨hn1, hn32, hl96, hok⟩ := checkF_ok hc
  have hj0 := treeF_joins n ars
  have htf := tree_fit hc
  have htl := treeF_le n ars
  have Hc := Lib.hid hc
  have Hj := Lib.hid hj0.1
  have HJ := Lib.hid hj0.2.1
  have HP := Lib.hid hj0.2.2
  clear hc hj0
  obtain ⟨tr, htr⟩ : ∃ tr, treeF n ars = tr := ⟨_, rfl⟩
  rw [htr] at Hj HJ HP htf htl rt ⊢
  clear htr
  have n0 : (w.alloc (.cells #[.int .i64 n, .slice A l c] 24)).cell? ⟨w.heap.size, 0, none⟩ = some (.int .i64 n) := kb.cell 0
  go_enter Try.func19, Try.ntmps19
  go_wp2_with (at_make; refine wpList_make_full _ rfl _ _ 25 rfl (w.heap.size + 1) 3 i0 (.int .i64 0) 1 Try.underlying25 hi hz0 hz1 _ _ _ _ n rfl rfl (by omega) (by omega) (by rw [hz2]; omega) (by unfold maxLen; omega) (by simp) ?_)
  intro w2 o2 g2
  rw [made_int] at o2
  have b2 : Below w.heap.size w w2 := b1.grown g2 b1.size (fun k hk => by cases hk)
  have kn2 := kb.grown g2 (by simp)
  have s2 := g2.size
  simp at s2
  obtain ⟨g, hg⟩ : ∃ g, w.heap.size + 1 = g := ⟨_, rfl⟩
  have hgl := own_lt o2
  rw [hg] at o2 hgl ⊢
  clear g2 n0 b1 kb
  go_wp2
  go_loopw [7] (fun i wr => ∃ k : Nat, k ≤ n ∧ i = .int .i64 k ∧ wr.ownsRow g 3 1 (.slice (some ⟨g, 0, none⟩) n n) n (cellsI (selfs k ++ List.replicate (n - k) 0)) ∧ Blk wr w.heap.size 24 #[.int .i64 n, .slice A l c] ∧ Below w.heap.size w wr) (fun i _ => n - (intOf i).toNat)
  case atStart => exact ⟨0, by omega, rfl, o2, kn2, b2⟩
  case round =>
    clear o2 kn2 b2
    obtain ⟨k, hk, rfl, o3, kn3, b3⟩ := hrel
    have n0 := kn3.cell 0
    simp at n0
    by_cases hlt : k < n
    · have hl3 : (selfs k ++ List.replicate (n - k) (0 : Int)).length = n := by simp [selfs_length]; omega
      obtain ⟨o, hoo⟩ : ∃ o, (selfs k ++ List.replicate (n - k) (0 : Int))[k]? = some o := ⟨_, List.getElem?_eq_getElem (by omega)⟩
      have hco := o3.cellAt k (by omega)
      rw [show (cellsI (selfs k ++ List.replicate (n - k) (0 : Int)))[k]? = some (.int .i64 o) by simp only [cellsI, List.getElem?_map, hoo]; rfl] at hco
      have fro := o3.frozenAt k
      have o4 := (o3.stored k (.int .i64 k)).1
      rw [cellsI_set, selfs_next n k hlt] at o4
      have m2 := kn3.far (p := ⟨g, k, none⟩) (by simp; omega) (.int .i64 k)
      have m4 := b3.setCell (p := ⟨g, k, none⟩) (by simp; omega) (.int .i64 k)
      clear o3 kn3 b3 hoo
      go_wp2
      go_roundw
      case rel => exact ⟨k + 1, by omega, by go_num, o4, m2, m4⟩
      case measure => simp [intOf]; omega
    · obtain rfl : n = k := by omega
      have o4 : wr.ownsRow g 3 1 (.slice (some ⟨g, 0, none⟩) n n) n (cellsI (rootsK (selfs n) n)) := by
        have e : rootsK (selfs n) n = selfs n := by
          unfold rootsK selfs
          apply List.map_congr_left
          intro v hv
          rw [← selfs, selfs_root (List.mem_range.1 hv)]
        rw [e]
        simpa using o3
      clear o3
      go_wp2
      go_loopw [8] (fun i wx => ∃ (k : Nat) (up : List Int), k ≤ tr.length ∧ i = .int .i64 k ∧ up.length = n ∧ wx.ownsRow g 3 1 (.slice (some ⟨g, 0, none⟩) n n) n (cellsI (rootsK up n)) ∧ Blk wx w.heap.size 24 #[.int .i64 n, .slice A l c] ∧ Below w.heap.size w wx ∧
        Hid (Joins ars up (tr.drop k)) ∧ Hid ((tr.drop k).foldl (joinStep ars) up = upF n ars)) (fun i _ => tr.length - (intOf i).toNat)
      case atStart => exact ⟨0, selfs n, Nat.zero_le _, rfl, selfs_length n, o4, kn3, b3, HJ, Hj⟩
      case round =>
        clear o4 kn3 b3 n0 HJ Hj
        obtain ⟨k, up, hk, rfl, hul, o5, kn5, b5, HJ, Hj⟩ := hrel
        have n0 := kn5.cell 0
        have n1 := kn5.cell 1
        simp at n0 n1
        by_cases hlt : k < tr.length
        · obtain ⟨b, off, x, rfl, hbl, hxf, hcx, hd, hxx⟩ := (rt.below b5 (Nat.le_refl _)).at_ htf hlt
          have HJ1 := HJ.out
          rw [hd.out] at HJ1
          obtain ⟨⟨hx0, hxl, a, ha, hne⟩, HJ2⟩ := HJ1
          have Hj2 : Hid ((tr.drop (k + 1)).foldl (joinStep ars) (joinStep ars up x) = upF n ars) := by
            unfold Hid
            have := Hj.out
            rw [hd.out, List.foldl_cons] at this
            exact this
          obtain ⟨xn, rfl⟩ : ∃ xn : Nat, x = xn := ⟨x.toNat, by omega⟩
          rw [Int.toNat_natCast] at ha
          have hroot := joinStep_root hok hul (x := (xn : Int)) (by rw [Int.toNat_natCast]; exact ha) hne
          obtain ⟨q1, q2, q3, q4⟩ := hok a (List.mem_of_getElem? ha)
          obtain ⟨b', off', a', rfl, hbl', hfa, c0, c1, c2, c3, c4, _, hae⟩ := (hr.below b5 (Nat.le_refl _)).arc (k := xn) hx (by omega)
          obtain rfl : a' = a := by have := hae.out; rw [ha] at this; exact (Option.some.inj this).symm
          obtain ⟨fx, hfx⟩ : ∃ fx : Nat, a'.f = fx := ⟨a'.f.toNat, by omega⟩
          obtain ⟨tx, htx⟩ : ∃ tx : Nat, a'.t = tx := ⟨a'.t.toNat, by omega⟩
          rw [hfx, htx, Int.toNat_natCast, Int.toNat_natCast] at hroot hne
          rw [hfx] at c0 q1 q2
          rw [htx] at c1 q3 q4
          have Hroot := Lib.hid hroot
          have HJ3 := Lib.hid HJ2
          have e1 := o5.cellAt fx (by omega)
          have e2 := o5.cellAt tx (by omega)
          rw [show (cellsI (rootsK up n))[fx]? = some (.int .i64 (root up fx : Nat)) by simp [cellsI, rootsK_at (show fx < n by omega)]] at e1
          rw [show (cellsI (rootsK up n))[tx]? = some (.int .i64 (root up tx : Nat)) by simp [cellsI, rootsK_at (show tx < n by omega)]] at e2
          clear hroot HJ2 HJ Hj hfx htx ha hae
          generalize hra : root up fx = ra at *
          generalize hrb : root up tx = rb at *
          have hab : ((ra : Int) == (rb : Int)) = false := by simp; omega
          have g1 : decide ((xn : Int) < 0) = false := decide_eq_false (by omega)
          have g2 : decide (l ≤ xn) = false := decide_eq_false (by omega)
          clear hra hrb hd
          have h1 : (0 : Int) ≤ (k : Int) := by omega
          have h2 : (k : Int) < (tr.length : Int) := by omega
          go_upto_region 9 with fail
          go_cut [61] (fun s wx => ∃ d, wx = wr.drewN d ∧ s = .bool false)
          case first =>
            clear c0 c1 c2 c3 c4 e1 e2 hab n0
            by_cases hk0 : k = 0
            · subst hk0
              rw [Nat.add_zero] at hcx
              have g3 : (0 : Int) < (tr.length : Int) := h2
              clear hxx
              go_quiet (fail)
              go_wp2
              go_meet
              exact ⟨_, rfl, rfl⟩
            · obtain ⟨k', hkk⟩ : ∃ k', k = k' + 1 := ⟨k - 1, by omega⟩
              obtain ⟨b2', off2', y, hA, _, hyf, hcy, _, hyy⟩ := (rt.below b5 (Nat.le_refl _)).at_ htf (k := k') (by omega)
              cases hA
              have hyx : y < (xn : Int) := by
                obtain ⟨l1, e1⟩ := List.getElem?_eq_some_iff.1 hyy.out
                obtain ⟨l2, e2⟩ := List.getElem?_eq_some_iff.1 hxx.out
                have := List.pairwise_iff_getElem.1 HP.out k' k l1 l2 (by omega)
                rw [e1, e2] at this
                exact this
              have g3 : decide ((xn : Int) ≤ y) = false := decide_eq_false (by omega)
              have g4 : decide (0 < k) = true := decide_eq_true (by omega)
              have g8 : 0 < k := by omega
              have g5 : (0 : Int) ≤ (k' : Int) := by omega
              have g6 : (k' : Int) < (tr.length : Int) := by omega
              have g7 : IntKind.i64.wrap ((k : Int) - 1) = (k' : Int) := by rw [IntWalk.i64_in _ (by omega)]; omega
              clear hyy hxx hkk
              go_quiet (fail)
              go_wp2
              go_meet
              exact ⟨_, rfl, rfl⟩
          case rest =>
            obtain ⟨d, rfl, rfl⟩ := hcut
            clear g1 g2 hxx rt
            have o6 : (wr.drewN d).ownsRow g 3 1 (.slice (some ⟨g, 0, none⟩) n n) n (cellsI (rootsK up n)) := o5
            have kn6 : Blk (wr.drewN d) w.heap.size 24 #[.int .i64 n, .slice (some ⟨b', off', none⟩) l c] := kn5
            have b6 := Below.drewN b5 d
            have hcx6 : (wr.drewN d).cell? ⟨b, off + k, none⟩ = some (.int .i64 xn) := hcx
            have c06 : (wr.drewN d).cell? ⟨b', off' + xn * 5, none⟩ = some (.int .i64 fx) := c0
            have c16 : (wr.drewN d).cell? ⟨b', off' + xn * 5 + 1, none⟩ = some (.int .i64 tx) := c1
            have n16 : (wr.drewN d).cell? ⟨w.heap.size, 1, none⟩ = some (.slice (some ⟨b', off', none⟩) l c) := n1
            have e16 : (wr.drewN d).cell? ⟨g, fx, none⟩ = some (.int .i64 ra) := e1
            have e26 : (wr.drewN d).cell? ⟨g, tx, none⟩ = some (.int .i64 rb) := e2
            generalize wr.drewN d = W6 at o6 kn6 b6 hcx6 c06 c16 n16 e16 e26 ⊢
            clear o5 kn5 b5 hcx c0 c1 c2 c3 c4 n0 n1 e1 e2
            have x0 : (0 : Int) ≤ (xn : Int) := by omega
            have x1 : (xn : Int) < (l : Int) := by omega
            go_wp2
            go_quiet (fail)
            have o7 : (W6.drewN nq).ownsRow g 3 1 (.slice (some ⟨g, 0, none⟩) n n) n (cellsI (rootsK up n)) := o6
            have kn7 : Blk (W6.drewN nq) w.heap.size 24 #[.int .i64 n, .slice (some ⟨b', off', none⟩) l c] := kn6
            have b7 : Below w.heap.size w (W6.drewN nq) := Below.drewN b6 nq
            have hcx7 : (W6.drewN nq).cell? ⟨b, off + k, none⟩ = some (.int .i64 xn) := hcx6
            have c17 : (W6.drewN nq).cell? ⟨b', off' + xn * 5 + 1, none⟩ = some (.int .i64 tx) := c16
            have n17 : (W6.drewN nq).cell? ⟨w.heap.size, 1, none⟩ = some (.slice (some ⟨b', off', none⟩) l c) := n16
            have e27 : (W6.drewN nq).cell? ⟨g, tx, none⟩ = some (.int .i64 rb) := e26
            generalize W6.drewN nq = W7 at o7 kn7 b7 hcx7 c17 n17 e27 ⊢
            clear o6 kn6 b6 hcx6 c06 c16 n16 e16 e26
            go_wp2
            go_quiet (fail)
            have o8 : (W7.drewN nq).ownsRow g 3 1 (.slice (some ⟨g, 0, none⟩) n n) n (cellsI (rootsK up n)) := o7
            have kn8 : Blk (W7.drewN nq) w.heap.size 24 #[.int .i64 n, .slice (some ⟨b', off', none⟩) l c] := kn7
            have b8 : Below w.heap.size w (W7.drewN nq) := Below.drewN b7 nq
            generalize W7.drewN nq = W8 at o8 kn8 b8 ⊢
            clear o7 kn7 b7 hcx7 c17 n17 e27
            go_wp2
            go_loopw [11] (fun i wx => ∃ j : Nat, j ≤ n ∧ i = .int .i64 j ∧ wx.ownsRow g 3 1 (.slice (some ⟨g, 0, none⟩) n n) n (cellsI (mix up (joinStep ars up xn) n j)) ∧ Blk wx w.heap.size 24 #[.int .i64 n, .slice (some ⟨b', off', none⟩) l c] ∧ Below w.heap.size w wx) (fun i _ => n - (intOf i).toNat)
            case atStart => exact ⟨0, Nat.zero_le _, rfl, by rw [mix_zero]; exact o8, kn8, b8⟩
            case round =>
              clear o8 kn8 b8
              obtain ⟨j, hjn, rfl, o9, kn9, b9⟩ := hrel
              have n0 := kn9.cell 0
              simp at n0
              by_cases hjlt : j < n
              · have hco := o9.cellAt j (by omega)
                rw [show (cellsI (mix up (joinStep ars up xn) n j))[j]? = some (.int .i64 (root up j : Nat)) by simp only [cellsI, List.getElem?_map, mix_at hjlt]; rfl] at hco
                have fro := o9.frozenAt j
                have hrj := Hroot.out j hjlt
                have o10 := (o9.stored j (.int .i64 (root (joinStep ars up xn) j : Nat))).1
                rw [cellsI_set, mix_set hjlt] at o10
                have m2 := kn9.far (p := ⟨g, j, none⟩) (by simp; omega) (.int .i64 (root (joinStep ars up xn) j : Nat))
                have m4 := b9.setCell (p := ⟨g, j, none⟩) (by simp; omega) (.int .i64 (root (joinStep ars up xn) j : Nat))
                have hsame := fun h : root (joinStep ars up xn) j = root up j => mix_same (up := up) hjlt h
                have j0 : (0 : Int) ≤ (j : Int) := by omega
                have j1 : (j : Int) < (n : Int) := by omega
                generalize hrr : root up j = rr at *
                by_cases hc1 : rr = ra ∨ rr = rb
                · rw [if_pos hc1] at hrj
                  rw [hrj] at o10 m2 m4
                  have hmn : ((min ra rb : Nat) : Int) = if rb < ra then (rb : Int) else (ra : Int) := by split <;> omega
                  rw [hmn] at o10 m2 m4
                  clear hsame hrj hrr hmn
                  by_cases hra : rr = ra
                  · obtain rfl : ra = rr := hra.symm
                    go_wp2
                    go_roundw
                    case rel => exact ⟨j + 1, by omega, by go_num, o10, m2, m4⟩
                    case measure => simp [intOf]; omega
                  · have q1 : ((rr : Int) == (ra : Int)) = false := by simp; omega
                    have q2 : ((rr : Int) == (rb : Int)) = true := by simp; omega
                    go_wp2
                    go_roundw
                    case rel => exact ⟨j + 1, by omega, by go_num, o10, m2, m4⟩
                    case measure => simp [intOf]; omega
                · rw [if_neg hc1] at hrj
                  have e := hsame hrj
                  rw [e] at o9
                  have q1 : ((rr : Int) == (ra : Int)) = false := by simp; omega
                  have q2 : ((rr : Int) == (rb : Int)) = false := by simp; omega
                  clear hsame hrj hrr o10 m2 m4 e
                  go_wp2
                  go_roundw
                  case rel => exact ⟨j + 1, by omega, by go_num, o9, kn9, b9⟩
                  case measure => simp [intOf]; omega
              · obtain rfl : j = n := by omega
                rw [mix_end] at o9
                go_wp2
                go_roundw
                case rel => exact ⟨k + 1, joinStep ars up xn, by omega, by go_num, by rw [joinStep_length, hul], o9, kn9, b9, HJ3, Hj2⟩
                case measure => simp [intOf]; omega
        · have hd : tr.drop k = [] := List.drop_eq_nil_of_le (by omega)
          have e : up = upF n ars := by have := Hj.out; rw [hd] at this; exact this
          have Ho : wr.ownsRow g 3 1 (.slice (some ⟨g, 0, none⟩) n n) n (cellsI (homeF n ars)) := by rw [e] at o5; exact o5
          clear Hj HJ hd e o5
          go_wp2
          go_ret2
          exact ⟨g, rfl, own_mono Ho (by omega), b5⟩
end Go.Proofs.Yteokomepcgkddaa
