/-
  IntsJoins: the walk.
-/
import Derived.Test.YtlnbmjebkpkclaaDoorIs
import Derived.Deep.DeepCutAuto
namespace Go.Proofs.YtlnbmjebkpkclaaDoor
open Go.RowKit

theorem gcd_val {xs : List Int} {g : Int} {b : Bool} (Hg : Hid (okOf (gcdFrom 0 xs : Nat) = g ∧ okB (gcdFrom 0 xs : Nat) = b)) (A : Option Addr) (n c B : Nat) (w : World) (hn : xs.length = n) (hx : AllFit xs) (hr : Rd w B A (cellsI xs)) (hl : xs.length ≤ maxLen) (hT : Tab w) :
    Calls Tryd.prog 25 #[.slice A n c] w fun e w' => e = .returned (.tuple #[.int .i64 g, .bool b]) ∧ w = w' := by
  have h := gcd_any xs A n c B w hn hx hr hl hT
  rw [Hg.out.1, Hg.out.2] at h
  exact h
theorem lcm_val {xs : List Int} {g : Int} {b : Bool} (Hg : Hid (lcmGo 1 true xs = (g, b))) (A : Option Addr) (n c B : Nat) (w : World) (hn : xs.length = n) (hx : AllFit xs) (hr : Rd w B A (cellsI xs)) (hl : xs.length ≤ maxLen) (hT : Tab w) :
    Calls Tryd.prog 27 #[.slice A n c] w fun e w' => e = .returned (.tuple #[.int .i64 g, .bool b]) ∧ Drawn w w' := by
  have h := lcm_any xs A n c B w hn hx hr hl hT
  rw [Hg.out] at h
  exact h
theorem sum_val {xs : List Int} {g : Int} {b : Bool} (Hg : Hid (sumFrom 0 xs = (g, b))) (A : Option Addr) (n c B : Nat) (w : World) (hn : xs.length = n) (hx : AllFit xs) (hr : Rd w B A (cellsI xs)) (hl : xs.length ≤ maxLen) :
    Calls Tryd.prog 22 #[.slice A n c] w fun e w' => e = .returned (.tuple #[.int .i64 g, .bool b]) ∧ w = w' := by
  have h := sum_any xs A n c B w hn hx hr hl
  rw [Hg.out] at h
  exact h

theorem own_ge {w : World} {base : Nat} {e : TypeId} {size n k : Nat} {v : Value} {xs : List Value} (h : w.ownsRow base e size v n xs) (hk : v.ownBlock = some k) : base ≤ k := by
  rcases h.2 with ⟨rfl, _⟩ | ⟨g, cap, cur, rfl, hg, _⟩
  · simp [Value.ownBlock] at hk
  · simp [Value.ownBlock] at hk; omega

set_option maxRecDepth 100000 in
set_option maxHeartbeats 8000000 in
theorem joins_walk (xs ys : List Int) (A A' : Option Addr) (n c n' c' : Nat) (w : World) (hn : xs.length = n) (_hc : n ≤ c) (hx : AllFit xs) (hr : Rd w w.heap.size A (cellsI xs)) (hz : n ≤ 1048576) (hn' : ys.length = n') (_hc' : n' ≤ c') (hy : AllFit ys) (hr' : Rd w w.heap.size A' (cellsI ys)) (hz' : n' ≤ 1048576) (hT : Tab w)
    (g l x y z u v wl s p q : Int) (one three is also fz ua bs fw right fp still : Bool)
    (G1 : Hid (okOf (gcdFrom 0 (xs ++ ys) : Nat) = g ∧ okB (gcdFrom 0 (xs ++ ys) : Nat) = one)) (G2 : Hid (okOf (gcdFrom 0 (ys ++ xs) : Nat) = g ∧ okB (gcdFrom 0 (ys ++ xs) : Nat) = one))
    (L1 : Hid (lcmGo 1 true (xs ++ ys) = (l, three))) (L2 : Hid (lcmGo 1 true (ys ++ xs) = (l, three)))
    (X : Hid (okOf (gcdFrom 0 xs : Nat) = x ∧ okB (gcdFrom 0 xs : Nat) = is)) (Y : Hid (okOf (gcdFrom 0 ys : Nat) = y ∧ okB (gcdFrom 0 ys : Nat) = also)) (Z : Hid (okOf (gcdFrom 0 [x, y] : Nat) = z ∧ okB (gcdFrom 0 [x, y] : Nat) = fz))
    (U : Hid (lcmGo 1 true xs = (u, ua))) (V : Hid (lcmGo 1 true ys = (v, bs))) (W : Hid (lcmGo 1 true [u, v] = (wl, fw)))
    (S : Hid (sumFrom 0 (xs ++ ys) = (s, right))) (Pf : Hid (sumFrom 0 xs = (p, fp))) (Q : Hid (sumFrom 0 (p :: ys) = (q, still)))
    (fx : fits x) (fy : fits y) (fu : fits u) (fv : fits v) (fpp : fits p)
    (J1 : Hid (is = true → also = true → fz = true ∧ one = true ∧ z = g)) (J2 : Hid (ua = true → bs = true → wl = l ∧ fw = three)) (J3 : Hid (right = true → fp = true)) (J4 : Hid (fp = true → q = s ∧ still = right)) :
    Calls Tryd.prog 11 #[.slice A n c, .slice A' n' c'] w fun e w' => e = .returned (.bool true) ∧ Below w.heap.size w w' := by
  obtain ⟨i, hi, hz0, hz1, hz2⟩ := info_parts info_int
  have hcl := cellsI_length xs
  have hcl' := cellsI_length ys
  have fxy : AllFit (xs ++ ys) := fun a ha => by rcases List.mem_append.1 ha with h | h; exact hx a h; exact hy a h
  have fyx : AllFit (ys ++ xs) := fun a ha => by rcases List.mem_append.1 ha with h | h; exact hy a h; exact hx a h
  have lxy : (xs ++ ys).length = n + n' := by simp [hn, hn']
  have lyx : (ys ++ xs).length = n' + n := by simp [hn, hn']
  have cxy : cellsI (xs ++ ys) = cellsI xs ++ cellsI ys := by simp [cellsI]
  have cyx : cellsI (ys ++ xs) = cellsI ys ++ cellsI xs := by simp [cellsI]
  have mxy : (xs ++ ys).length ≤ maxLen := by rw [lxy]; unfold maxLen; omega
  have myx : (ys ++ xs).length ≤ maxLen := by rw [lyx]; unfold maxLen; omega
  have mx : xs.length ≤ maxLen := by unfold maxLen; omega
  have my : ys.length ≤ maxLen := by unfold maxLen; omega
  go_enter Tryd.func11, Tryd.ntmps11
  go_wp2_with (at_builtin; refine wpList_append_rd _ rfl _ _ 26 rfl w.heap.size 3 i (.int .i64 0) 1 8 Tryd.underlying26 hi hz0 hz1 hz2 rfl (by decide) _ 0 [] rfl (World.ownsRow_nil _ _ _ _) w.heap.size A n c (cellsI xs) rfl (by rw [hcl, hn]; omega) hr (cellsI_one xs) (by unfold maxLen; omega) (by omega) (Nat.le_refl _) ?_)
  intro v1 w1 o1 g1 _
  have b1 : Below w.heap.size w w1 := (Below.refl _ _).grown g1 (Nat.le_refl _) (fun k hk => by simp [Value.ownBlock] at hk)
  have r1 := (hr'.below b1 (Nat.le_refl _)).more b1.size
  clear g1
  go_wp2_with (at_builtin; refine wpList_append_rd _ rfl _ _ 26 rfl w.heap.size 3 i (.int .i64 0) 1 8 Tryd.underlying26 hi hz0 hz1 hz2 rfl (by decide) _ n (cellsI xs) rfl o1 w1.heap.size A' n' c' (cellsI ys) rfl (by rw [hcl', hn']; omega) r1 (cellsI_one ys) (by unfold maxLen; omega) (by omega) b1.size ?_)
  intro v2 w2 o2 g2 _
  have b2 : Below w.heap.size w w2 := b1.grown g2 b1.size (fun k hk => own_ge o1 hk)
  obtain ⟨A2, c2, hv2, -⟩ := own_slice o2
  subst hv2
  rw [← cxy] at o2
  have q2 := rd_of_own o2
  have r2 := (hr'.below b2 (Nat.le_refl _)).more b2.size
  clear g2 o1 o2 r1 b1
  go_wp2_with (at_builtin; refine wpList_append_rd _ rfl _ _ 26 rfl w2.heap.size 3 i (.int .i64 0) 1 8 Tryd.underlying26 hi hz0 hz1 hz2 rfl (by decide) _ 0 [] rfl (World.ownsRow_nil _ _ _ _) w2.heap.size A' n' c' (cellsI ys) rfl (by rw [hcl', hn']; omega) r2 (cellsI_one ys) (by unfold maxLen; omega) (by omega) (Nat.le_refl _) ?_)
  intro v3 w3 o3 g3 _
  have b3 : Below w2.heap.size w2 w3 := (Below.refl _ _).grown g3 (Nat.le_refl _) (fun k hk => by simp [Value.ownBlock] at hk)
  have r3 := (hr.below (b2.trans (b3.mono b2.size)) (Nat.le_refl _)).more (Nat.le_trans b2.size b3.size)
  clear g3
  go_wp2_with (at_builtin; refine wpList_append_rd _ rfl _ _ 26 rfl w2.heap.size 3 i (.int .i64 0) 1 8 Tryd.underlying26 hi hz0 hz1 hz2 rfl (by decide) _ n' (cellsI ys) rfl o3 w3.heap.size A n c (cellsI xs) rfl (by rw [hcl, hn]; omega) r3 (cellsI_one xs) (by unfold maxLen; omega) (by omega) b3.size ?_)
  intro v4 w4 o4 g4 _
  have b4 : Below w2.heap.size w2 w4 := b3.grown g4 b3.size (fun k hk => own_ge o3 hk)
  obtain ⟨A4, c4, hv4, -⟩ := own_slice o4
  subst hv4
  rw [← cyx] at o4
  have q4 := rd_of_own o4
  have q24 := (q2.below b4 (Nat.le_refl _)).more b4.size
  have e4 := b2.trans (b4.mono b2.size)
  have T4 := hT.below e4 hT.pos
  have ra := hr.below e4 (Nat.le_refl _)
  have rb := hr'.below e4 (Nat.le_refl _)
  clear g4 o3 o4 r3 b3 b2 b4 q2 r2 cxy cyx hcl hcl' hT hr hr'
  go_wp2_with fail
  refine (gcd_val G1 _ _ _ _ _ lxy fxy q24 mxy T4).mono ?_; rintro e w' ⟨rfl, rfl⟩
  go_wp2_with fail
  refine (gcd_val G2 _ _ _ _ _ lyx fyx q4 myx T4).mono ?_; rintro e w' ⟨rfl, rfl⟩
  go_wp2_with fail
  refine (lcm_val L1 _ _ _ _ _ lxy fxy q24 mxy T4).mono ?_; rintro e w5 ⟨rfl, hd5⟩
  have q4 := (hd5.rd q4).more (Nat.le_of_eq hd5.size.symm)
  have q24 := (hd5.rd q24).more (Nat.le_of_eq hd5.size.symm)
  have e4 := e4.trans (hd5.below _)
  have T4 := hd5.tab T4
  have ra := hd5.rd ra
  have rb := hd5.rd rb
  clear hd5
  go_wp2_with fail
  refine (lcm_val L2 _ _ _ _ _ lyx fyx q4 myx T4).mono ?_; rintro e w6 ⟨rfl, hd6⟩
  have q24 := (hd6.rd q24).more (Nat.le_of_eq hd6.size.symm)
  have e4 := e4.trans (hd6.below _)
  have T4 := hd6.tab T4
  have ra := hd6.rd ra
  have rb := hd6.rd rb
  clear hd6 q4
  go_wp2_with fail
  refine (ints_any xs A n c _ _ hn ra (by omega)).mono ?_; rintro e w7 ⟨A7, c7, rfl, -, q7, -, b7⟩
  have T4 := T4.below b7 T4.pos
  have q24 := (q24.below b7 (Nat.le_refl _)).more b7.size
  have ra := ra.below b7 e4.size
  have rb := rb.below b7 e4.size
  have e4 := e4.trans (b7.mono e4.size)
  clear b7
  go_wp2_with fail
  refine (gcd_val X _ _ _ _ _ hn hx q7 mx T4).mono ?_; rintro e w' ⟨rfl, rfl⟩
  clear q7
  go_wp2_with fail
  refine (ints_any ys A' n' c' _ _ hn' rb (by omega)).mono ?_; rintro e w8 ⟨A7, c7, rfl, -, q7, -, b7⟩
  have T4 := T4.below b7 T4.pos
  have q24 := (q24.below b7 (Nat.le_refl _)).more b7.size
  have ra := ra.below b7 e4.size
  have rb := rb.below b7 e4.size
  have e4 := e4.trans (b7.mono e4.size)
  clear b7
  go_wp2_with fail
  refine (gcd_val Y _ _ _ _ _ hn' hy q7 my T4).mono ?_; rintro e w' ⟨rfl, rfl⟩
  clear q7
  go_upto_region 14 with fail
  go_cut [99] (fun s wx => wx = w8 ∧ ∃ bb, s = .bool bb ∧ Hid (bb = true → is = true ∧ also = true))
  case first =>
    cases is
    · go_wp2_with fail
      go_meet
      exact ⟨rfl, false, rfl, fun h => by cases h⟩
    · go_wp2_with fail
      go_meet
      exact ⟨rfl, also, rfl, by intro h; exact ⟨by trivial, h⟩⟩
  case rest =>
    obtain ⟨rfl, bb, rfl, Hbb⟩ := hcut
    go_upto_if 99 with fail
    go_cut [19] (fun _ wx => Below w.heap.size w wx ∧ Tab wx ∧ Rd wx wx.heap.size A2 (cellsI (xs ++ ys)) ∧ Rd wx w.heap.size A (cellsI xs) ∧ Rd wx w.heap.size A' (cellsI ys))
    case first =>
      cases bb
      · go_wp2_with fail
        go_meet
        exact ⟨e4, T4, q24, ra, rb⟩
      · obtain ⟨j1, j2, j3⟩ := J1.out (Hbb.out rfl).1 (Hbb.out rfl).2
        subst j1 j2 j3
        go_wp2_with fail
        refine (gcd_val Z _ _ _ (wc.heap.size + 1) _ rfl (allFit_two fx fy) (rd_alloc wc wc.heap.size rfl 3 (cellsI [x, y])) (by unfold maxLen; simp) (T4.alloc _)).mono ?_; rintro e w' ⟨rfl, rfl⟩
        go_wp2_with fail
        go_meet
        have ba : Below wc.heap.size wc (wc.alloc (.cells #[.int .i64 x, .int .i64 y] 3)) := (Below.refl _ _).alloc (Nat.le_refl _) _
        exact ⟨e4.trans (ba.mono e4.size), T4.alloc _, (q24.below ba (Nat.le_refl _)).more ba.size, ra.below ba e4.size, rb.below ba e4.size⟩
    case rest =>
      obtain ⟨e4', T4', q24', ra', rb'⟩ := hcut
      clear e4 T4 q24 ra rb Hbb bb X Y Z J1 G1 G2 L1 L2
      have e4 := e4'
      have T4 := T4'
      have q24 := q24'
      have ra := ra'
      have rb := rb'
      clear e4' T4' q24' ra' rb'
      go_wp2_with fail
      refine (ints_any xs A n c _ _ hn ra (by omega)).mono ?_; rintro e w5 ⟨A7, c7, rfl, -, q7, -, b7⟩
      have T4 := T4.below b7 T4.pos
      have q24 := (q24.below b7 (Nat.le_refl _)).more b7.size
      have ra := ra.below b7 e4.size
      have rb := rb.below b7 e4.size
      have e4 := e4.trans (b7.mono e4.size)
      clear b7
      go_wp2_with fail
      refine (lcm_val U _ _ _ _ _ hn hx q7 mx T4).mono ?_; rintro e w6 ⟨rfl, hd7⟩
      have q24 := (hd7.rd q24).more (Nat.le_of_eq hd7.size.symm)
      have ra := hd7.rd ra
      have rb := hd7.rd rb
      have e4 := e4.trans (hd7.below _)
      have T4 := hd7.tab T4
      clear hd7 q7
      go_wp2_with fail
      refine (ints_any ys A' n' c' _ _ hn' rb (by omega)).mono ?_; rintro e w7 ⟨A7, c7, rfl, -, q7, -, b7⟩
      have T4 := T4.below b7 T4.pos
      have q24 := (q24.below b7 (Nat.le_refl _)).more b7.size
      have ra := ra.below b7 e4.size
      have rb := rb.below b7 e4.size
      have e4 := e4.trans (b7.mono e4.size)
      clear b7
      go_wp2_with fail
      refine (lcm_val V _ _ _ _ _ hn' hy q7 my T4).mono ?_; rintro e w8 ⟨rfl, hd7⟩
      have q24 := (hd7.rd q24).more (Nat.le_of_eq hd7.size.symm)
      have ra := hd7.rd ra
      have rb := hd7.rd rb
      have e4 := e4.trans (hd7.below _)
      have T4 := hd7.tab T4
      clear hd7 q7
      go_upto_region 20 with fail
      go_cut [133] (fun s wx => wx = w8 ∧ ∃ bb, s = .bool bb ∧ Hid (bb = true → ua = true ∧ bs = true))
      case first =>
        cases ua
        · go_wp2_with fail
          go_meet
          exact ⟨rfl, false, rfl, fun h => by cases h⟩
        · go_wp2_with fail
          go_meet
          exact ⟨rfl, bs, rfl, by intro h; exact ⟨by trivial, h⟩⟩
      case rest =>
        obtain ⟨rfl, bb, rfl, Hbb⟩ := hcut
        go_upto_if 133 with fail
        go_cut [25] (fun _ wx => Below w.heap.size w wx ∧ Tab wx ∧ Rd wx wx.heap.size A2 (cellsI (xs ++ ys)) ∧ Rd wx w.heap.size A (cellsI xs) ∧ Rd wx w.heap.size A' (cellsI ys))
        case first =>
          cases bb
          · go_wp2_with fail
            go_meet
            exact ⟨e4, T4, q24, ra, rb⟩
          · obtain ⟨j1, j2⟩ := J2.out (Hbb.out rfl).1 (Hbb.out rfl).2
            subst j1 j2
            go_wp2_with fail
            refine (lcm_val W _ _ _ (wc.heap.size + 1) _ rfl (allFit_two fu fv) (rd_alloc wc wc.heap.size rfl 3 (cellsI [u, v])) (by unfold maxLen; simp) (T4.alloc _)).mono ?_; rintro e w9 ⟨rfl, hd9⟩
            go_wp2_with fail
            go_meet
            have ba : Below wc.heap.size wc (wc.alloc (.cells #[.int .i64 u, .int .i64 v] 3)) := (Below.refl _ _).alloc (Nat.le_refl _) _
            have bd := ba.trans (hd9.below wc.heap.size)
            exact ⟨e4.trans (bd.mono e4.size), T4.below bd T4.pos, (q24.below bd (Nat.le_refl _)).more bd.size, ra.below bd e4.size, rb.below bd e4.size⟩
        case rest =>
          obtain ⟨e4', T4', q24', ra', rb'⟩ := hcut
          clear e4 T4 q24 ra rb Hbb bb U V W J2
          have e4 := e4'
          have T4 := T4'
          have q24 := q24'
          have ra := ra'
          have rb := rb'
          clear e4' T4' q24' ra' rb'
          go_wp2_with fail
          refine (sum_val S _ _ _ _ _ lxy fxy q24 mxy).mono ?_; rintro e w' ⟨rfl, rfl⟩
          go_wp2_with fail
          refine (ints_any xs A n c _ _ hn ra (by omega)).mono ?_; rintro e w5 ⟨A7, c7, rfl, -, q7, -, b7⟩
          have T4 := T4.below b7 T4.pos
          have q24 := (q24.below b7 (Nat.le_refl _)).more b7.size
          have ra := ra.below b7 e4.size
          have rb := rb.below b7 e4.size
          have e4 := e4.trans (b7.mono e4.size)
          clear b7
          go_wp2_with fail
          refine (sum_val Pf _ _ _ _ _ hn hx q7 mx).mono ?_; rintro e w' ⟨rfl, rfl⟩
          clear q7
          go_upto_region 26 with fail
          go_cut [164] (fun s wx => wx = w5 ∧ s = .bool false)
          case first =>
            cases right
            · go_wp2_with fail
              go_meet
              exact ⟨rfl, rfl⟩
            · obtain rfl := J3.out rfl
              go_wp2_with fail
              go_meet
              exact ⟨rfl, rfl⟩
          case rest =>
            obtain ⟨rfl, rfl⟩ := hcut
            have ba : Below wc.heap.size wc (wc.alloc (.cells #[.int .i64 p] 3)) := (Below.refl _ _).alloc (Nat.le_refl _) _
            have hcy := cellsI_length ys
            go_wp2_with (at_builtin; refine wpList_append_rd _ rfl _ _ 26 rfl wc.heap.size 3 i (.int .i64 0) 1 8 Tryd.underlying26 hi hz0 hz1 hz2 rfl (by decide) _ 0 [] rfl (World.ownsRow_nil _ _ _ _) (wc.heap.size + 1) (some ⟨wc.heap.size, 0, none⟩) 1 1 (cellsI [p]) rfl rfl (rd_alloc wc wc.heap.size rfl 3 (cellsI [p])) (cellsI_one [p]) (by unfold maxLen; omega) (by omega) ba.size ?_)
            intro v9 w9 o9 g9 _
            have b9 : Below wc.heap.size wc w9 := ba.grown g9 ba.size (fun k hk => by simp [Value.ownBlock] at hk)
            have r9 := (rb.below b9 e4.size).more (Nat.le_trans e4.size b9.size)
            clear g9 ba
            go_wp2_with (at_builtin; refine wpList_append_rd _ rfl _ _ 26 rfl wc.heap.size 3 i (.int .i64 0) 1 8 Tryd.underlying26 hi hz0 hz1 hz2 rfl (by decide) _ 1 (cellsI [p]) rfl o9 w9.heap.size A' n' c' (cellsI ys) rfl (by rw [hcy, hn']; omega) r9 (cellsI_one ys) (by unfold maxLen; omega) (by omega) b9.size ?_)
            intro v10 w10 o10 g10 _
            have b10 : Below wc.heap.size wc w10 := b9.grown g10 b9.size (fun k hk => own_ge o9 hk)
            obtain ⟨A10, c10, hv10, -⟩ := own_slice o10
            subst hv10
            have q10 : Rd w10 w10.heap.size A10 (cellsI (p :: ys)) := rd_of_own o10
            have fpy : AllFit (p :: ys) := fun a ha => by
              rcases List.mem_cons.1 ha with rfl | h
              · exact fpp
              · exact hy a h
            have e10 := e4.trans (b10.mono e4.size)
            have T10 := T4.below b10 T4.pos
            clear g10 o10 o9 b9 b10 r9 e4 T4 q24 ra rb
            go_wp2_with fail
            refine (sum_val Q _ _ _ _ _ (by simp [hn']; omega) fpy q10 (by simp; unfold maxLen; omega)).mono ?_; rintro e w' ⟨rfl, rfl⟩
            have J4' := J4
            clear J4 J3 q10 Q S Pf
            cases fp
            · go_wp2_with fail
              refine (awake_any _ T10).mono ?_; rintro e w11 ⟨rfl, b11⟩
              go_wp2
              go_ret
              exact ⟨rfl, e10.trans (b11.mono e10.size)⟩
            · obtain ⟨j1, j2⟩ := J4'.out rfl
              subst j1 j2
              go_wp2_with fail
              refine (awake_any _ T10).mono ?_; rintro e w11 ⟨rfl, b11⟩
              go_wp2
              go_ret
              exact ⟨rfl, e10.trans (b11.mono e10.size)⟩

end Go.Proofs.YtlnbmjebkpkclaaDoor
