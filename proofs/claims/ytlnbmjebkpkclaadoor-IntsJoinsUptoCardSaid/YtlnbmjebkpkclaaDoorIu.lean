/-
  IntsJoins, where what comes in is short: the two together; and what the bound on the input's bulk gives of a list.
-/
import Derived.Test.YtlnbmjebkpkclaaDoorIt
import Derived.Test.YtlnbmjebkpkclaaDoorQ
namespace Go.Proofs.YtlnbmjebkpkclaaDoor
open Go.RowKit Go.ChangeShapes Go.WideShapes Go.ChangeAt

/-- where what comes in is short -/
theorem joins_any (xs : List Int) (A : Option Addr) (n c : Nat) (ys : List Int) (A' : Option Addr) (n' c' : Nat) (w : World) (hn : xs.length = n) (hc : n ≤ c) (hx : AllFit xs) (hr : Rd w w.heap.size A (cellsI xs)) (hz : n ≤ 1048576)
    (hn' : ys.length = n') (hc' : n' ≤ c') (hy : AllFit ys) (hr' : Rd w w.heap.size A' (cellsI ys)) (hz' : n' ≤ 1048576) (hT : Tab w) :
    Calls Tryd.prog 11 #[.slice A n c, .slice A' n' c'] w fun e w' => e = .returned (.bool true) ∧ Below w.heap.size w w' := by
  refine joins_walk xs ys A A' n c n' c' w hn hc hx hr hz hn' hc' hy hr' hz' hT (okOf (gcdFrom 0 (xs ++ ys) : Nat)) (lcmGo 1 true (xs ++ ys)).1 (okOf (gcdFrom 0 xs : Nat)) (okOf (gcdFrom 0 ys : Nat)) (okOf (gcdFrom 0 [okOf (gcdFrom 0 xs : Nat), okOf (gcdFrom 0 ys : Nat)] : Nat))
    (lcmGo 1 true xs).1 (lcmGo 1 true ys).1 (lcmGo 1 true [(lcmGo 1 true xs).1, (lcmGo 1 true ys).1]).1 (sumFrom 0 (xs ++ ys)).1 (sumFrom 0 xs).1 (sumFrom 0 ((sumFrom 0 xs).1 :: ys)).1
    (okB (gcdFrom 0 (xs ++ ys) : Nat)) (lcmGo 1 true (xs ++ ys)).2 (okB (gcdFrom 0 xs : Nat)) (okB (gcdFrom 0 ys : Nat)) (okB (gcdFrom 0 [okOf (gcdFrom 0 xs : Nat), okOf (gcdFrom 0 ys : Nat)] : Nat))
    (lcmGo 1 true xs).2 (lcmGo 1 true ys).2 (lcmGo 1 true [(lcmGo 1 true xs).1, (lcmGo 1 true ys).1]).2 (sumFrom 0 (xs ++ ys)).2 (sumFrom 0 xs).2 (sumFrom 0 ((sumFrom 0 xs).1 :: ys)).2
    ⟨rfl, rfl⟩ ?_ rfl ?_ ⟨rfl, rfl⟩ ⟨rfl, rfl⟩ ⟨rfl, rfl⟩ rfl rfl rfl rfl rfl rfl
    (okOf_fits _) (okOf_fits _) (lcmGo_fits _) (lcmGo_fits _) (sumFrom_fits0 _ 0 (by unfold fits; omega)) ?_ ?_ ?_ ?_
  · unfold Hid; rw [gcd_turn]; exact ⟨rfl, rfl⟩
  · unfold Hid; rw [lcm_turn]
  · intro h1 h2
    obtain ⟨k1, k2⟩ := join_gcd xs ys h1 h2
    rw [k2]
    exact ⟨k1, k1, rfl⟩
  · intro h1 h2
    rw [join_lcm xs ys h1 h2]
    exact ⟨rfl, rfl⟩
  · exact (join_sum xs ys).1
  · intro h
    rw [(join_sum xs ys).2 h]
    exact ⟨rfl, rfl⟩

theorem bulk_lits {H : Type} (k : IntKind) (zs : List Int) : Rows.uptoBulkAll (H := H) (lits k zs) = zs.length := by
  unfold lits
  induction zs with
  | nil => simp [Rows.uptoBulkAll]
  | cons z zs ih => simp only [List.map_cons, Rows.uptoBulkAll, Rows.uptoBulk, List.length_cons, ih]; omega
theorem list_bulk {H : Type} {enc : TypeId × Value → H} {W : World} {d : DataW H} {p : List MemPlace} {A : Option Addr} {n c : Nat} (h : DataW.Trod enc Tryd.prog W 0 (fun _ => true) true 26 (.slice A n c) d p) :
    n ≤ Rows.uptoBulk d := by
  obtain ⟨fuel, hf⟩ := h
  rcases open_ints Tryd.underlying26 Tryd.underlying3 cellsInt hf with ⟨hcs, hx⟩ | ⟨a, len', cap', zs, hcs, _, hl, hm, hzl, hx, hcell, hwz⟩
  · simp only [Value.cells, List.cons.injEq, Value.slice.injEq] at hcs
    obtain ⟨⟨rfl, rfl, rfl⟩, _⟩ := hcs
    omega
  · simp only [Value.cells, List.cons.injEq, Value.slice.injEq] at hcs
    obtain ⟨⟨rfl, rfl, rfl⟩, _⟩ := hcs
    simp only [if_true] at hzl
    have hd0 : d = .slice (lits .i64 (zs.take n)) (lits .i64 (zs.drop n)) := congrArg Prod.fst hx
    subst hd0
    rw [Rows.uptoBulk, bulk_lits, List.length_take]
    omega
end Go.Proofs.YtlnbmjebkpkclaaDoor
