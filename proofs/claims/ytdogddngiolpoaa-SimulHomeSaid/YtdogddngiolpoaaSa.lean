/-
  net.State's memory: a net, the tokens on its arcs, how often each node has fired.
-/
import Derived.Test.YtdogddngiolpoaaAp4
import Derived.Test.YtdogddngiolpoaaFb
namespace Go.Proofs.Ytdogddngiolpoaa
open Go.RowKit

def arc0 : ArcV := ⟨0, 0, 0, 0, 0⟩
def arcAt (ars : List ArcV) (i : Nat) : ArcV := ars[i]?.getD arc0
/-- the arcs that lead to a node, and from it -/
def intoF (ars : List ArcV) (m v : Nat) : List Nat := (List.range m).filter fun i => decide ((arcAt ars i).t = v)
def outF (ars : List ArcV) (m v : Nat) : List Nat := (List.range m).filter fun i => decide ((arcAt ars i).f = v)
def ints (xs : List Nat) : List Int := xs.map Int.ofNat
/-- what an arc has when its ends have fired so often -/
def tokA (F : Nat → Int) (a : ArcV) : Int := a.s + a.g * F a.f.toNat - a.k * F a.t.toNat
def rowF (F : Nat → Int) (n : Nat) : List Int := (List.range n).map F
def tokI (ars : List ArcV) (F : Nat → Int) (i : Nat) : Int := tokA F (arcAt ars i)
/-- an arc of a sound net -/
def ArcV.ok (n : Nat) (a : ArcV) : Prop := 0 ≤ a.f ∧ a.f < n ∧ 0 ≤ a.t ∧ a.t < n ∧ 1 ≤ a.g ∧ a.g ≤ 64 ∧ 1 ≤ a.k ∧ a.k ≤ 64 ∧ 0 ≤ a.s ∧ a.s ≤ 256
def lacks (F : Nat → Int) (a : ArcV) : Bool := decide (tokA F a < a.k)
/-- the first arc to a node that lacks tokens -/
def shortO (ars : List ArcV) (F : Nat → Int) (v : Nat) : Option Nat := (List.range ars.length).find? fun i => decide ((arcAt ars i).t = v) && lacks F (arcAt ars i)
def optI : Option Nat → Int
  | some i => i
  | none => -1
def mayB (ars : List ArcV) (n : Nat) (F : Nat → Int) (v : Int) : Bool := decide (0 ≤ v ∧ v < n) && (shortO ars F v.toNat).isNone
theorem arcAt_some {ars : List ArcV} {i : Nat} {a : ArcV} (h : ars[i]? = some a) : arcAt ars i = a := by unfold arcAt; rw [h]; rfl
theorem arcAt_mem {ars : List ArcV} {i : Nat} (h : i < ars.length) : arcAt ars i ∈ ars := by
  unfold arcAt; rw [List.getElem?_eq_getElem h]; exact List.getElem_mem h
theorem intoF_lt {ars : List ArcV} {m v i : Nat} (h : i ∈ intoF ars m v) : i < m := by
  have := (List.mem_filter.1 h).1; exact List.mem_range.1 this
theorem outF_lt {ars : List ArcV} {m v i : Nat} (h : i ∈ outF ars m v) : i < m := by
  have := (List.mem_filter.1 h).1; exact List.mem_range.1 this
theorem shortO_into (ars : List ArcV) (F : Nat → Int) (v : Nat) : shortO ars F v = (intoF ars ars.length v).find? fun i => lacks F (arcAt ars i) := by
  unfold shortO intoF
  rw [List.find?_filter]
  congr 1
  funext i
  simp
theorem intoF_succ (ars : List ArcV) (m v : Nat) : intoF ars (m + 1) v = intoF ars m v ++ if (arcAt ars m).t = v then [m] else [] := by
  unfold intoF
  rw [List.range_succ, List.filter_append]
  congr 1
  by_cases h : (arcAt ars m).t = v <;> simp [h]
theorem outF_succ (ars : List ArcV) (m v : Nat) : outF ars (m + 1) v = outF ars m v ++ if (arcAt ars m).f = v then [m] else [] := by
  unfold outF
  rw [List.range_succ, List.filter_append]
  congr 1
  by_cases h : (arcAt ars m).f = v <;> simp [h]
theorem ints_fit {m : Nat} {xs : List Nat} (h : ∀ i ∈ xs, i < m) (hm : m ≤ 100000) : AllFit (ints xs) := by
  intro x hx
  obtain ⟨i, hi, rfl⟩ := List.mem_map.1 hx
  have := h i hi
  show fits (i : Int)
  unfold fits; omega
theorem ints_length (xs : List Nat) : (ints xs).length = xs.length := by simp [ints]
/-- where a state lies -/
structure SM where
  gs : Nat
  gi : Nat
  go : Nat
  gt : Nat
  gf : Nat
  A : Option Addr
  ca : Nat
  Ai : Nat → Option Addr
  ci : Nat → Nat
  Ao : Nat → Option Addr
  co : Nat → Nat
/-- a state in memory -/
structure StT (w : World) (B : Nat) (s : SM) (n : Nat) (ars : List ArcV) (T F : Nat → Int) : Prop where
  blk : Blk w s.gs 77 #[.slice s.A ars.length s.ca, .slice (some ⟨s.gi, 0, none⟩) n n, .slice (some ⟨s.go, 0, none⟩) n n, .slice (some ⟨s.gt, 0, none⟩) ars.length ars.length, .slice (some ⟨s.gf, 0, none⟩) n n]
  arcs : Rd w w.heap.size s.A (cellsA ars)
  inb : ∀ j, j < n → w.cell? ⟨s.gi, j, none⟩ = some (.slice (s.Ai j) (intoF ars ars.length j).length (s.ci j))
  outb : ∀ j, j < n → w.cell? ⟨s.go, j, none⟩ = some (.slice (s.Ao j) (outF ars ars.length j).length (s.co j))
  inr : ∀ j, j < n → Rd w w.heap.size (s.Ai j) (cellsI (ints (intoF ars ars.length j)))
  outr : ∀ j, j < n → Rd w w.heap.size (s.Ao j) (cellsI (ints (outF ars ars.length j)))
  tok : w.ownsRow B 3 1 (.slice (some ⟨s.gt, 0, none⟩) ars.length ars.length) ars.length (cellsI (rowF T ars.length))
  fir : w.ownsRow B 3 1 (.slice (some ⟨s.gf, 0, none⟩) n n) n (cellsI (rowF F n))
  gilt : s.gi < w.heap.size
  golt : s.go < w.heap.size
  gtf : s.gt ≠ s.gf
  gst : s.gs ≠ s.gt
  gsf : s.gs ≠ s.gf
  git : s.gi ≠ s.gt
  gif : s.gi ≠ s.gf
  got : s.go ≠ s.gt
  gof : s.go ≠ s.gf
  at_ : blkOf s.A ≠ some s.gt
  af : blkOf s.A ≠ some s.gf
  ait : ∀ j, j < n → blkOf (s.Ai j) ≠ some s.gt
  aif : ∀ j, j < n → blkOf (s.Ai j) ≠ some s.gf
  aot : ∀ j, j < n → blkOf (s.Ao j) ≠ some s.gt
  aof : ∀ j, j < n → blkOf (s.Ao j) ≠ some s.gf
/-- a state whose tokens are what its counts say -/
abbrev St (w : World) (B : Nat) (s : SM) (n : Nat) (ars : List ArcV) (F : Nat → Int) : Prop := StT w B s n ars (tokI ars F) F
/-- a sound net -/
structure NetOk (n : Nat) (ars : List ArcV) : Prop where
  pos : 1 ≤ n
  n32 : n ≤ 32
  l96 : ars.length ≤ 96
  ok : ∀ a ∈ ars, a.ok n
theorem netOk_of {n : Int} {ars : List ArcV} (h : checkF n ars = 0) : ∃ m : Nat, n = m ∧ NetOk m ars := by
  unfold checkF at h
  split at h
  · cases h
  · split at h
    · cases h
    · refine ⟨n.toNat, by omega, by omega, by omega, by omega, ?_⟩
      rename_i h1 h2
      intro a ha
      have : ∀ bs : List ArcV, arcsF n bs = 0 → a ∈ bs → arcF n a = 0 := by
        intro bs
        induction bs with
        | nil => intro _ h; cases h
        | cons b bs ih =>
          intro hb hm
          unfold arcsF at hb
          split at hb
          · rename_i h0
            rcases List.mem_cons.1 hm with rfl | hm
            · exact h0
            · exact ih hb hm
          · rename_i h0; exact absurd hb h0
      have h3 := this ars h ha
      unfold arcF at h3
      unfold ArcV.ok
      split at h3
      · cases h3
      · split at h3
        · cases h3
        · split at h3
          · cases h3
          · omega
theorem NetOk.fit {n : Nat} {ars : List ArcV} (h : NetOk n ars) : ∀ a ∈ ars, a.fit := by
  intro a ha
  obtain ⟨h1, h2, h3, h4, h5, h6, h7, h8, h9, h10⟩ := h.ok a ha
  have := h.n32
  unfold ArcV.fit fits
  omega
/-- only some blocks have changed -/
structure Only (X : Nat → Prop) (w w' : World) : Prop where
  os : w'.os = w.os
  tape : w'.tape = w.tape
  output : w'.output = w.output
  size : w.heap.size ≤ w'.heap.size
  block : ∀ k, k < w.heap.size → ¬ X k → w'.heap[k]? = w.heap[k]?
theorem Rd.only {X : Nat → Prop} {w w' : World} {B : Nat} {A : Option Addr} {cs : List Value} (hr : Rd w B A cs) (ho : Only X w w') (hB : B ≤ w.heap.size) (hX : ∀ b, blkOf A = some b → ¬ X b) : Rd w' B A cs := by
  rcases hr with hr | ⟨b, off, rfl, hb, hc⟩
  · exact .inl hr
  · refine .inr ⟨b, off, rfl, hb, fun j u hu => ?_⟩
    rw [World.cell?_of_block (w := w) (a := ⟨b, off + j, none⟩) (ho.block b (by omega) (hX b rfl))]
    exact hc j u hu
theorem own_only {X : Nat → Prop} {w w' : World} {base : Nat} {e : TypeId} {size n : Nat} {v : Value} {xs : List Value} (h : w.ownsRow base e size v n xs) (ho : Only X w w') (hX : ∀ b, v.ownBlock = some b → ¬ X b) : w'.ownsRow base e size v n xs := by
  obtain ⟨h1, h2⟩ := h
  refine ⟨h1, ?_⟩
  rcases h2 with h2 | ⟨g, cap, cur, rfl, h3, h4, h5⟩
  · exact .inl h2
  · have hlt := (Array.getElem?_eq_some_iff.1 h4).1
    exact .inr ⟨g, cap, cur, rfl, h3, (ho.block g hlt (hX g rfl)).trans h4, h5⟩
/-- a state, when all but its tokens and counts has been left -/
theorem StT.only {X : Nat → Prop} {w w' : World} {B : Nat} {s : SM} {n : Nat} {ars : List ArcV} {T T' F F' : Nat → Int} (h : StT w B s n ars T F) (ho : Only X w w') (hX : ∀ k, k ≠ s.gt → k ≠ s.gf → k < w.heap.size → ¬ X k)
    (ht : w'.ownsRow B 3 1 (.slice (some ⟨s.gt, 0, none⟩) ars.length ars.length) ars.length (cellsI (rowF T' ars.length))) (hf : w'.ownsRow B 3 1 (.slice (some ⟨s.gf, 0, none⟩) n n) n (cellsI (rowF F' n))) : StT w' B s n ars T' F' := by
  have rdlt : ∀ {A : Option Addr} {cs : List Value}, Rd w w.heap.size A cs → blkOf A ≠ some s.gt → blkOf A ≠ some s.gf → Rd w' w'.heap.size A cs := by
    intro A cs hr h1 h2
    refine Rd.more (B := w.heap.size) ?_ ho.size
    rcases hr with hr | ⟨b, off, rfl, hb, hc⟩
    · exact .inl hr
    · exact Rd.only (.inr ⟨b, off, rfl, hb, hc⟩) ho (Nat.le_refl _) (fun b' he => hX b' (fun h => h1 (by rw [he, h])) (fun h => h2 (by rw [he, h])) (by simp only [blkOf] at he; injection he with he; omega))
  have cell : ∀ g j u, g ≠ s.gt → g ≠ s.gf → g < w.heap.size → w.cell? ⟨g, j, none⟩ = some u → w'.cell? ⟨g, j, none⟩ = some u := by
    intro g j u h1 h2 h3 hc
    rw [World.cell?_of_block (w := w) (a := ⟨g, j, none⟩) (ho.block g h3 (hX g h1 h2 h3))]; exact hc
  have hsz := ho.size
  exact ⟨(ho.block _ h.blk.lt (hX _ h.gst h.gsf h.blk.lt)).trans h.blk, rdlt h.arcs h.at_ h.af, fun j hj => cell _ _ _ h.git h.gif h.gilt (h.inb j hj), fun j hj => cell _ _ _ h.got h.gof h.golt (h.outb j hj),
    fun j hj => rdlt (h.inr j hj) (h.ait j hj) (h.aif j hj), fun j hj => rdlt (h.outr j hj) (h.aot j hj) (h.aof j hj), ht, hf, by have := h.gilt; omega, by have := h.golt; omega,
    h.gtf, h.gst, h.gsf, h.git, h.gif, h.got, h.gof, h.at_, h.af, h.ait, h.aif, h.aot, h.aof⟩
theorem belowOnly {B : Nat} {w w' : World} (h : Below B w w') : Only (fun k => B ≤ k) w w' := ⟨h.os, h.tape, h.output, h.size, fun k _ hX => h.block k (by omega)⟩
theorem StT.kept {X : Nat → Prop} {w w' : World} {B : Nat} {s : SM} {n : Nat} {ars : List ArcV} {T F : Nat → Int} (h : StT w B s n ars T F) (ho : Only X w w') (hX : ∀ k, k < w.heap.size → ¬ X k) : StT w' B s n ars T F :=
  h.only ho (fun k _ _ hk => hX k hk) (own_only h.tok ho fun b hb => hX b (h.tok.lt b hb).2) (own_only h.fir ho fun b hb => hX b (h.fir.lt b hb).2)
theorem StT.below {w w' : World} {B : Nat} {s : SM} {n : Nat} {ars : List ArcV} {T F : Nat → Int} (h : StT w B s n ars T F) (hb : Below w.heap.size w w') : StT w' B s n ars T F := h.kept (belowOnly hb) (fun _ hk => by omega)
theorem StT.drawn {w w' : World} {B : Nat} {s : SM} {n : Nat} {ars : List ArcV} {T F : Nat → Int} (h : StT w B s n ars T F) (hd : Drawn w w') : StT w' B s n ars T F := h.below (hd.below _)
end Go.Proofs.Ytdogddngiolpoaa
