/-
  net.weave: its first statement, in any order.
-/
import Derived.Test.YtpmlljbebdidgaaDoorM14
import Derived.Test.YtpmlljbebdidgaaDoorM3
namespace Go.Proofs.YtpmlljbebdidgaaDoor
open Go.RowKit

theorem info_arc : (Tryd.prog.info? 66).map (fun i => (i.zero.map (·.cells.size), i.size, i.bytes)) = some (some 5, 5, 40) := by kernel_rfl
theorem cellsA_one (ars : List ArcV) : ∀ u ∈ cellsA ars, u.oneCell' = true := by
  intro u hu
  obtain ⟨a, _, h⟩ := List.mem_flatMap.1 hu
  simp only [ArcV.cells, List.mem_cons, List.not_mem_nil, or_false] at h
  rcases h with rfl | rfl | rfl | rfl | rfl <;> rfl
theorem arc_parts : ∃ i, Tryd.prog.info? 66 = some i ∧ ∃ z, i.zero = some z ∧ i.size = 5 ∧ i.bytes = 40 ∧ z.cells.size = 5 := by
  obtain ⟨i, hi, h⟩ := Option.map_eq_some_iff.1 info_arc
  simp only [Prod.mk.injEq] at h
  obtain ⟨h1, h2, h3⟩ := h
  obtain ⟨z, hz, h4⟩ := Option.map_eq_some_iff.1 h1
  exact ⟨i, hi, z, hz, h2, h3, h4⟩
theorem own_made (w : World) (b : Nat) (hb : b = w.heap.size) (n : Nat) (hn : n ≤ maxLen) : (w.alloc (.cells (madeCells #[.slice none 0 0] n) 27)).ownsRow b 27 1 (.slice (some ⟨b, 0, none⟩) n n) n ((List.range n).map fun _ => .slice none 0 0) := by
  subst hb
  exact ⟨by simp, .inr ⟨w.heap.size, n, _, rfl, Nat.le_refl _, heap_alloc_new w _, Nat.le_refl _, hn, by simp [size_madeCells], by rw [made_slice]; exact List.take_of_length_le (by simp)⟩⟩
/-- memory while weave's first statement runs -/
structure WvI (w0 : World) (B gn gr n : Nat) (A : Option Addr) (c : Nat) (ars : List ArcV) (L : Nat → Bool) (V : Nat → Value) (w : World) : Prop where
  bel : Below B w0 w
  gnr : gn < B + 2 ∧ gr < B + 2 ∧ B + 2 ≤ w.heap.size
  net : Blk w gn 30 #[.int .i64 n, .slice A ars.length c]
  res : Blk w gr 99 #[.slice none 0 0, .slice none 0 0, .slice none 0 0]
  rd : Rd w B A (cellsA ars)
  f0 : L 0 = true → L 3 = false → ∃ g, V 6 = .slice (some ⟨g, 0, none⟩) 0 0 ∧ w.ownsRow (B + 2) 66 5 (V 6) 0 []
  f1 : L 1 = true → V 7 = .pointer (some ⟨gn, 1, none⟩)
  f2 : L 2 = true → V 8 = .slice A ars.length c
  f3 : L 3 = true → w.ownsRow (B + 2) 66 5 (V 9) ars.length (cellsA ars)
  f4 : L 4 = true → V 10 = .pointer (some ⟨gn, 0, none⟩)
  f5 : L 5 = true → V 11 = .int .i64 n
  f6 : L 6 = true → ∃ g, V 12 = .slice (some ⟨g, 0, none⟩) n n ∧ w.ownsRow (B + 2) 27 1 (V 12) n ((List.range n).map fun _ => .slice none 0 0)
  f7 : L 7 = true → V 13 = .pointer (some ⟨gn, 0, none⟩)
  f8 : L 8 = true → V 14 = .int .i64 n
  f9 : L 9 = true → ∃ g, V 15 = .slice (some ⟨g, 0, none⟩) n n ∧ w.ownsRow (B + 2) 27 1 (V 15) n ((List.range n).map fun _ => .slice none 0 0)
  fd : L 6 = true → L 9 = true → ∀ b, (V 12).ownBlock = some b → (V 15).ownBlock ≠ some b
  f10 : L 10 = true → L 3 = true ∧ L 6 = true ∧ L 9 = true ∧ V 16 = .agg #[V 9, V 12, V 15]
  f11 : L 11 = true → L 12 = false → ∃ g, V 3 = .pointer (some ⟨g, 0, none⟩) ∧ B + 2 ≤ g ∧ Blk w g 99 #[.slice none 0 0, .slice none 0 0, .slice none 0 0]
  f12 : L 12 = true → L 10 = true ∧ L 11 = true ∧ ∃ g, V 3 = .pointer (some ⟨g, 0, none⟩) ∧ B + 2 ≤ g ∧ Blk w g 99 #[V 9, V 12, V 15]
theorem WvI.below {w0 w w' : World} {B gn gr n : Nat} {A : Option Addr} {c : Nat} {ars : List ArcV} {L : Nat → Bool} {V : Nat → Value} (h : WvI w0 B gn gr n A c ars L V w) (hb : Below w.heap.size w w') : WvI w0 B gn gr n A c ars L V w' := by
  have hs := hb.size
  obtain ⟨g1, g2, g3⟩ := h.gnr
  exact { h with
    bel := ⟨hb.os.trans h.bel.os, hb.tape.trans h.bel.tape, hb.output.trans h.bel.output, Nat.le_trans h.bel.size hb.size, fun k hk => (hb.block k (by omega)).trans (h.bel.block k hk)⟩
    gnr := ⟨g1, g2, by omega⟩
    net := h.net.below hb h.net.lt
    res := h.res.below hb h.res.lt
    rd := h.rd.below hb (by omega)
    f0 := fun h1 h2 => by obtain ⟨g, e, o⟩ := h.f0 h1 h2; exact ⟨g, e, own_below o hb⟩
    f3 := fun h1 => own_below (h.f3 h1) hb
    f6 := fun h1 => by obtain ⟨g, e, o⟩ := h.f6 h1; exact ⟨g, e, own_below o hb⟩
    f9 := fun h1 => by obtain ⟨g, e, o⟩ := h.f9 h1; exact ⟨g, e, own_below o hb⟩
    f11 := fun h1 h2 => by obtain ⟨g, e, hg, k⟩ := h.f11 h1 h2; exact ⟨g, e, hg, k.below hb k.lt⟩
    f12 := fun h1 => by obtain ⟨l1, l2, g, e, hg, k⟩ := h.f12 h1; exact ⟨l1, l2, g, e, hg, k.below hb k.lt⟩ }
theorem WvI.alloc {w0 w : World} {B gn gr n : Nat} {A : Option Addr} {c : Nat} {ars : List ArcV} {L : Nat → Bool} {V : Nat → Value} (h : WvI w0 B gn gr n A c ars L V w) (o : Obj) : WvI w0 B gn gr n A c ars L V (w.alloc o) :=
  h.below ((Below.refl _ _).alloc (Nat.le_refl _) o)

theorem updV_self (V : Nat → Value) (d : Nat) (v : Value) : updV V d v d = v := by simp [updV]
/-- memory while one of the loop's statements runs: d: its first slot; s: which table; t: the row; k: the arc -/
structure RgI (w0 : World) (B : Nat) (gt : Bool → Nat) (n : Nat) (va : Value) (ars : List ArcV) (bs : List (Nat × TypeId × Array Value)) (T : Bool → Nat → Value) (R : Bool → Nat → List Nat)
    (g ga c f d : Nat) (s : Bool) (t k : Nat) (L : Nat → Bool) (V : Nat → Value) (w : World) : Prop where
  bys : ∀ p ∈ bs, Blk w p.1 p.2.1 p.2.2
  tab : ∀ j u, j < n → L 14 = false → T s j = u → w.cell? ⟨gt s, j, none⟩ = some u
  siz : B ≤ w.heap.size
  p0 : L 12 = false → Wv w0 w B gt n va ars bs T T R
  p1 : L 12 = true → L 11 = true ∧ L 9 = true ∧ (L 14 = false → Wv w0 w B gt n va ars bs T (up2 T s t (V (d + 12))) (up2 R s t (R s t ++ [k])))
  p2 : L 14 = true → L 12 = true ∧ ∃ T', Wv w0 w B gt n va ars bs T' T' (up2 R s t (R s t ++ [k]))
  b : L 11 = true → L 12 = false → ∃ gb, V (d + 11) = .slice (some ⟨gb, 0, none⟩) 1 1 ∧ gb < w.heap.size ∧ w.cell? ⟨gb, 0, none⟩ = some (.int .i64 k)
  e0 : L 0 = true → V (d + 0) = .pointer (some ⟨g, c, none⟩)
  e1 : L 1 = true → V (d + 1) = .slice (some ⟨gt s, 0, none⟩) n n
  e2 : L 2 = true → V (d + 2) = .pointer (some ⟨ga, f, none⟩)
  e3 : L 3 = true → V (d + 3) = .int .i64 t
  e4 : L 4 = true → V (d + 4) = .pointer (some ⟨g, c, none⟩)
  e5 : L 5 = true → V (d + 5) = .slice (some ⟨gt s, 0, none⟩) n n
  e6 : L 6 = true → V (d + 6) = .pointer (some ⟨ga, f, none⟩)
  e7 : L 7 = true → V (d + 7) = .int .i64 t
  e8 : L 8 = true → V (d + 8) = .pointer (some ⟨gt s, t, none⟩)
  e9 : L 9 = true → V (d + 9) = T s t
  e10 : L 10 = true → V (d + 10) = .int .i64 k
  e13 : L 13 = true → V (d + 13) = .pointer (some ⟨gt s, t, none⟩)
end Go.Proofs.YtpmlljbebdidgaaDoor
