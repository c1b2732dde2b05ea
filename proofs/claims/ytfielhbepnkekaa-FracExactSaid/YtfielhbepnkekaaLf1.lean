/-
  FracExact: the plain law: a product that is answered is exact, and the first numbers' product times the last one.
-/
import Derived.Test.YtfielhbepnkekaaLc2
import Derived.Test.YtfielhbepnkekaaKn
namespace Go.Proofs.Ytfielhbepnkekaa
open Go.RowKit

def prodN (fs : List Fr) : Int := fs.foldl (fun a f => a * f.n) 1
def prodD (fs : List Fr) : Int := fs.foldl (fun a f => a * f.d) 1
theorem prodN_snoc (fs : List Fr) (f : Fr) : prodN (fs ++ [f]) = prodN fs * f.n := by unfold prodN; rw [List.foldl_append]; rfl
theorem prodD_snoc (fs : List Fr) (f : Fr) : prodD (fs ++ [f]) = prodD fs * f.d := by unfold prodD; rw [List.foldl_append]; rfl
theorem fit_pw {x : Int} (h : fits x) : (x.natAbs : Int) ≤ pw 3 := by unfold fits at h; unfold pw; omega
theorem prod_pw {x y : Int} {k : Nat} (hx : (x.natAbs : Int) ≤ pw (3 * k)) (hy : fits y) : ((x * y).natAbs : Int) ≤ pw (3 * (k + 1)) := by
  rw [Int.natAbs_mul, show 3 * (k + 1) = 3 * k + 3 by omega, pw_add, Int.natCast_mul]
  exact Int.mul_le_mul hx (fit_pw hy) (by omega) (by have := pw_pos (3 * k); omega)
theorem pw_one : ((1 : Int).natAbs : Int) ≤ pw (3 * 0) := by unfold pw; decide
theorem prodN_pw {fs : List Fr} (h : ∀ f ∈ fs, f.fit) : ∀ k, k ≤ fs.length → ((prodN (fs.take k)).natAbs : Int) ≤ pw (3 * k) ∧ ((prodD (fs.take k)).natAbs : Int) ≤ pw (3 * k) := by
  intro k
  induction k with
  | zero => intro _; exact ⟨pw_one, pw_one⟩
  | succ k ih =>
    intro hk
    obtain ⟨h1, h2⟩ := ih (by omega)
    have hg : fs[k]? = some fs[k] := List.getElem?_eq_getElem (by omega)
    have hf := h fs[k] (List.getElem_mem _)
    have e : fs.take (k + 1) = fs.take k ++ [fs[k]] := by rw [List.take_add_one, hg]; rfl
    rw [e, prodN_snoc, prodD_snoc]
    exact ⟨prod_pw h1 hf.1, prod_pw h2 hf.2⟩
theorem pw_lt (k : Nat) : pw (3 * k) < pw (3 * k + 1) := by
  have h0 := pw_pos (3 * k)
  rw [pw_succ]
  omega

theorem mulGo_worth (xs : List Fr) : ∀ (a f : Fr) (N E : Int), a.valid = true → (∀ x ∈ xs, x.valid = true) → a.n * E = N * a.d → mulGo a xs = (f, 0) → f.valid = true ∧ f.n * xs.foldl (fun a f => a * f.d) E = xs.foldl (fun a f => a * f.n) N * f.d := by
  induction xs with
  | nil =>
    intro a f N E ha _ hw h
    simp only [mulGo, Prod.mk.injEq, and_true] at h
    subst h
    exact ⟨ha, hw⟩
  | cons x xs ih =>
    intro a f N E ha hv hw h
    rw [mulGo] at h
    split at h
    · have hx := hv x (List.mem_cons_self ..)
      refine ih (mul2 a x) f (N * x.n) (E * x.d) (mul2_valid ha hx) (fun y hy => hv y (List.mem_cons_of_mem _ hy)) ?_ h
      have h1 := mul2_worth ha hx
      have pa := Fr.pos ha
      refine Int.eq_of_mul_eq_mul_right (show a.d ≠ 0 by omega) ?_
      calc (mul2 a x).n * (E * x.d) * a.d = (mul2 a x).n * (a.d * x.d) * E := by ac_rfl
        _ = a.n * x.n * (mul2 a x).d * E := by rw [h1]
        _ = a.n * E * (x.n * (mul2 a x).d) := by ac_rfl
        _ = N * a.d * (x.n * (mul2 a x).d) := by rw [hw]
        _ = N * x.n * (mul2 a x).d * a.d := by ac_rfl
    · simp at h
theorem mulGo_snoc (xs : List Fr) (x : Fr) : ∀ (a f : Fr), a.valid = true → a.fit → (∀ y ∈ xs, y.valid = true) → mulGo a (xs ++ [x]) = (f, 0) → ∃ g, mulGo a xs = (g, 0) ∧ g.valid = true ∧ g.fit ∧ f = mul2 g x ∧ (okB (mul2 g x).n && okB (mul2 g x).d) = true := by
  induction xs with
  | nil =>
    intro a f ha hf _ h
    rw [List.nil_append, mulGo] at h
    split at h
    · rename_i h2
      simp only [mulGo, Prod.mk.injEq, and_true] at h
      exact ⟨a, rfl, ha, hf, h.symm, h2⟩
    · simp at h
  | cons y xs ih =>
    intro a f ha hf hv h
    rw [List.cons_append, mulGo] at h
    split at h
    · rename_i h2
      have h3 := h2
      rw [Bool.and_eq_true, okB_iff, okB_iff] at h3
      obtain ⟨g, h4, h5⟩ := ih (mul2 a y) f (mul2_valid ha (hv y (List.mem_cons_self ..))) h3 (fun z hz => hv z (List.mem_cons_of_mem _ hz)) h
      refine ⟨g, ?_, h5⟩
      rw [mulGo, if_pos h2]; exact h4
    · simp at h
/-- what Mul answers -/
theorem mulR_ok {fs : List Fr} {f : Fr} (h : mulR fs = (f, 0)) : (∀ x ∈ fs, x.valid = true) ∧ mulGo ⟨1, 1⟩ fs = (f, 0) := by
  unfold mulR at h
  split at h
  · rename_i h2
    exact ⟨fun x hx => List.all_eq_true.1 h2 x hx, h⟩
  · simp at h
theorem one_fit : (⟨1, 1⟩ : Fr).fit := ⟨fitI _ (by simp), fitI _ (by simp)⟩
theorem mulR_worth {fs : List Fr} {f : Fr} (h : mulR fs = (f, 0)) : f.valid = true ∧ f.n * prodD fs = prodN fs * f.d := by
  obtain ⟨h1, h2⟩ := mulR_ok h
  exact mulGo_worth fs ⟨1, 1⟩ f 1 1 one_valid h1 rfl h2
theorem mulGo_fit (xs : List Fr) : ∀ (a f : Fr), a.fit → mulGo a xs = (f, 0) → f.fit := by
  induction xs with
  | nil => intro a f ha h; simp only [mulGo, Prod.mk.injEq, and_true] at h; subst h; exact ha
  | cons x xs ih =>
    intro a f ha h
    rw [mulGo] at h
    split at h
    · rename_i h2
      rw [Bool.and_eq_true, okB_iff, okB_iff] at h2
      exact ih _ f h2 h
    · simp at h
theorem mulR_fit {fs : List Fr} {f : Fr} (h : mulR fs = (f, 0)) : f.fit := mulGo_fit fs _ f one_fit (mulR_ok h).2
theorem mulR_snoc {xs : List Fr} {x f : Fr} (h : mulR (xs ++ [x]) = (f, 0)) : ∃ g, mulR xs = (g, 0) ∧ g.fit ∧ mulR [g, x] = (f, 0) := by
  obtain ⟨h1, h2⟩ := mulR_ok h
  obtain ⟨g, h3, h4, h5, h6, h7⟩ := mulGo_snoc xs x ⟨1, 1⟩ f one_valid one_fit (fun y hy => h1 y (List.mem_append_left _ hy)) h2
  refine ⟨g, ?_, h5, ?_⟩
  · unfold mulR
    rw [if_pos (List.all_eq_true.2 fun y hy => h1 y (List.mem_append_left _ hy))]
    exact h3
  · rw [mulR_two h4 (h1 x (by simp)) h5, if_pos h7, h6]
theorem mulGo_err (xs : List Fr) : ∀ a : Fr, (mulGo a xs).2 = 0 ∨ mulGo a xs = (⟨0, 0⟩, 4) := by
  induction xs with
  | nil => intro a; exact .inl rfl
  | cons x xs ih =>
    intro a
    rw [mulGo]
    split
    · exact ih _
    · exact .inr rfl
theorem mulR_err (fs : List Fr) : (mulR fs).2 = 0 ∨ mulR fs = (⟨0, 0⟩, 1) ∨ mulR fs = (⟨0, 0⟩, 4) := by
  unfold mulR
  split
  · rcases mulGo_err fs ⟨1, 1⟩ with h | h
    · exact .inl h
    · exact .inr (.inr h)
  · exact .inr (.inl rfl)
theorem WIs.apart {w : World} {g k : Nat} {v : Value} {z : Int} (h : WIs w v z k) {s' : Bool} {A' : Option Addr} {n' c' : Nat} (hg : Blk w g 48 #[.bool s', .slice A' n' c']) (u : Bool) (A2 : Option Addr) (n2 c2 : Nat) :
    WIs ((w.setCell ⟨g, 0, none⟩ (.bool u)).setCell ⟨g, 1, none⟩ (.slice A2 n2 c2)) v z k := by
  obtain ⟨s, A, c, ds, h1, h2, h3, h4, h5, h6, h7, h8⟩ := h
  refine ⟨s, A, c, ds, h1, h2, h3, h4, h5, ?_, h7, h8⟩
  rcases h6 with h6 | ⟨b, off, ha, hb, hc⟩
  · exact .inl h6
  · by_cases he : ds = []
    · subst he; exact .inl rfl
    · have hne : b ≠ g := by
        rintro rfl
        obtain ⟨d, ds', rfl⟩ := List.exists_cons_of_ne_nil he
        have c0 := hc 0 (.int .i64 d) rfl
        rw [Nat.add_zero, hg.cell off] at c0
        match off, c0 with
        | 0, c0 => simp at c0
        | 1, c0 => simp at c0
        | off + 2, c0 => simp at c0
      have hr : Rd w w.heap.size A (cellsI ds) := .inr ⟨b, off, ha, hb, hc⟩
      have hn : ∀ ad, A = some ad → ad.block ≠ g := fun ad h => by rw [ha] at h; injection h with h; rw [← h]; exact hne
      have := (hr.stored hn 0 (.bool u)).stored hn 1 (.slice A2 n2 c2)
      simpa using this
theorem of_agg (z : Int) (w : World) (hz : fits z) : Calls Try.prog 33 #[.int .i64 z] w fun e w' => ∃ s A c k, e = .returned (.agg #[.bool s, .slice A k c]) ∧ WIs w' (.agg #[.bool s, .slice A k c]) z k ∧ k ≤ 3 ∧ Below w.heap.size w w' := by
  refine (of_any z w hz).mono ?_
  rintro e w' ⟨v, k, rfl, hw, hk, hb⟩
  have hw' := hw
  obtain ⟨s, A, c, ds, rfl, _⟩ := hw'
  exact ⟨s, A, c, k, rfl, hw, hk, hb⟩
end Go.Proofs.Ytfielhbepnkekaa
