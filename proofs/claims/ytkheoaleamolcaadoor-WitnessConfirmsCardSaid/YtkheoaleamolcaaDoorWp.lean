/-
  Whole numbers by digits to the base 2^30, the lowest first: plain lists, no program in sight.
-/
import Derived.Lib.Hide
namespace Go.Proofs.YtkheoaleamolcaaDoor

/-- what digits are worth -/
def val : List Int → Int
  | [] => 0
  | d :: ds => d + 1073741824 * val ds
def Dig (ds : List Int) : Prop := ∀ d ∈ ds, 0 ≤ d ∧ d < 1073741824
/-- no nought at the high end -/
def Norm (ds : List Int) : Prop := Dig ds ∧ ds.getLast? ≠ some 0

theorem Dig.nil : Dig [] := fun d h => by cases h
theorem Dig.cons {d : Int} {ds : List Int} (h : 0 ≤ d ∧ d < 1073741824) (hs : Dig ds) : Dig (d :: ds) := fun x hx => by
  rcases List.mem_cons.1 hx with rfl | hx
  · exact h
  · exact hs x hx
theorem Dig.head {d : Int} {ds : List Int} (h : Dig (d :: ds)) : 0 ≤ d ∧ d < 1073741824 := h d (List.mem_cons_self ..)
theorem Dig.tail {d : Int} {ds : List Int} (h : Dig (d :: ds)) : Dig ds := fun x hx => h x (List.mem_cons_of_mem _ hx)
theorem Dig.append {a b : List Int} (ha : Dig a) (hb : Dig b) : Dig (a ++ b) := fun x hx => by
  rcases List.mem_append.1 hx with hx | hx
  · exact ha x hx
  · exact hb x hx
theorem Dig.take {a : List Int} (h : Dig a) (k : Nat) : Dig (a.take k) := fun x hx => h x (List.mem_of_mem_take hx)
theorem Dig.drop {a : List Int} (h : Dig a) (k : Nat) : Dig (a.drop k) := fun x hx => h x (List.mem_of_mem_drop hx)

/-- base to the power n -/
def pw (n : Nat) : Int := 1073741824 ^ n
theorem pw_succ (n : Nat) : pw (n + 1) = 1073741824 * pw n := by unfold pw; rw [Int.pow_succ, Int.mul_comm]
theorem pw_pos (n : Nat) : 1 ≤ pw n := by
  induction n with
  | zero => decide
  | succ n ih => rw [pw_succ]; omega
theorem pw_add (m n : Nat) : pw (m + n) = pw m * pw n := by unfold pw; rw [Int.pow_add]
theorem pw_le {m n : Nat} (h : m ≤ n) : pw m ≤ pw n := by
  obtain ⟨d, rfl⟩ := Nat.exists_eq_add_of_le h
  rw [pw_add]
  have h1 := pw_pos m
  have h2 := pw_pos d
  have := Int.mul_le_mul_of_nonneg_left h2 (show 0 ≤ pw m by omega)
  omega

theorem val_append (a b : List Int) : val (a ++ b) = val a + pw a.length * val b := by
  induction a with
  | nil => simp [val, pw]
  | cons x a ih =>
    simp only [List.cons_append, val, List.length_cons, ih, pw_succ]
    rw [Int.mul_add, Int.mul_assoc]; omega
theorem val_nonneg {ds : List Int} (h : Dig ds) : 0 ≤ val ds := by
  induction ds with
  | nil => simp [val]
  | cons d ds ih => have := ih h.tail; have := h.head; simp only [val]; omega
theorem val_lt {ds : List Int} (h : Dig ds) : val ds < pw ds.length := by
  induction ds with
  | nil => simp [val, pw]
  | cons d ds ih => have := ih h.tail; have := h.head; simp only [val, List.length_cons, pw_succ]; omega
theorem val_zeros (n : Nat) : val (List.replicate n 0) = 0 := by
  induction n with
  | zero => rfl
  | succ n ih => simp [List.replicate_succ, val, ih]

theorem Norm.nil : Norm [] := ⟨Dig.nil, by simp⟩
theorem val_low {ds : List Int} (h : Norm ds) (hn : ds ≠ []) : pw (ds.length - 1) ≤ val ds := by
  obtain ⟨a, d, rfl⟩ : ∃ a d, ds = a ++ [d] := ⟨ds.dropLast, ds.getLast hn, (List.dropLast_concat_getLast hn).symm⟩
  have hd := h.1 d (by simp)
  have h0 : d ≠ 0 := by have := h.2; simpa using this
  have ha := val_nonneg (h.1.take a.length)
  rw [List.take_left] at ha
  rw [val_append]
  have e : (a ++ [d]).length - 1 = a.length := by simp
  rw [e]
  have h1 := pw_pos a.length
  have h2 : val [d] = d := by simp [val]
  rw [h2]
  have := Int.mul_le_mul_of_nonneg_left (show 1 ≤ d by omega) (show 0 ≤ pw a.length by omega)
  omega
theorem val_pos {ds : List Int} (h : Norm ds) (hn : ds ≠ []) : 0 < val ds := by
  have := val_low h hn
  have := pw_pos (ds.length - 1)
  omega
theorem val_zero {ds : List Int} (h : Norm ds) : val ds = 0 ↔ ds = [] := by
  constructor
  · intro h0
    by_cases hn : ds = []
    · exact hn
    · have := val_pos h hn; omega
  · rintro rfl; rfl

/-- fewer digits: less -/
theorem val_shorter {a b : List Int} (ha : Dig a) (hb : Norm b) (h : a.length < b.length) : val a < val b := by
  have h1 := val_lt ha
  have h2 := val_low hb (by intro e; rw [e] at h; simp at h)
  have h3 := pw_le (show a.length ≤ b.length - 1 by omega)
  omega
/-- the highest digits that differ decide -/
theorem val_split (a : List Int) (i : Nat) (x : Int) (h : a[i]? = some x) : val a = val (a.take i) + pw i * (x + 1073741824 * val (a.drop (i + 1))) := by
  obtain ⟨hi, hx⟩ := List.getElem?_eq_some_iff.1 h
  have e : a = a.take i ++ (x :: a.drop (i + 1)) := by
    rw [← hx, ← List.drop_eq_getElem_cons hi, List.take_append_drop]
  have h2 : val (a.take i ++ (x :: a.drop (i + 1))) = _ := val_append _ _
  rw [← e] at h2
  rw [h2]
  simp only [List.length_take, Nat.min_eq_left (Nat.le_of_lt hi), val]
theorem val_decides {a b : List Int} (ha : Dig a) (hb : Dig b) {i : Nat} {x y : Int} (hx : a[i]? = some x) (hy : b[i]? = some y) (he : a.drop (i + 1) = b.drop (i + 1)) (h : x < y) : val a < val b := by
  rw [val_split a i x hx, val_split b i y hy, he]
  have h1 := val_lt (ha.take i)
  have h2 := val_nonneg (hb.take i)
  have h3 : pw (a.take i).length ≤ pw i := pw_le (by simp; omega)
  have h4 := pw_pos i
  generalize 1073741824 * val (b.drop (i + 1)) = r
  have h5 := Int.mul_le_mul_of_nonneg_left (show x + r + 1 ≤ y + r by omega) (show 0 ≤ pw i by omega)
  rw [Int.mul_add] at h5
  omega

/-! ### adding -/
def padSum : List Int → List Int → List Int
  | [], b => b
  | a, [] => a
  | x :: a, y :: b => (x + y) :: padSum a b
theorem padSum_nil (a : List Int) : padSum a [] = a := by cases a <;> rfl
theorem padSum_val (a : List Int) : ∀ b, val (padSum a b) = val a + val b := by
  induction a with
  | nil => intro b; simp [padSum, val]
  | cons x a ih =>
    intro b
    cases b with
    | nil => simp [padSum, val]
    | cons y b => simp only [padSum, val, ih]; omega
theorem padSum_length (a : List Int) : ∀ b, (padSum a b).length = max a.length b.length := by
  induction a with
  | nil => intro b; simp [padSum]
  | cons x a ih =>
    intro b
    cases b with
    | nil => simp [padSum]
    | cons y b => simp only [padSum, List.length_cons, ih]; omega
theorem padSum_drop (a : List Int) : ∀ (b : List Int) (k : Nat), (padSum a b).drop k = padSum (a.drop k) (b.drop k) := by
  induction a with
  | nil => intro b k; simp [padSum]
  | cons x a ih =>
    intro b k
    cases b with
    | nil => simp [padSum_nil]
    | cons y b =>
      cases k with
      | zero => rfl
      | succ k => simpa [padSum] using ih b k
def carryOn (c : Int) : List Int → List Int
  | [] => if 0 < c then [c] else []
  | s :: ss => (c + s) % 1073741824 :: carryOn ((c + s) / 1073741824) ss
theorem carryOn_val (ss : List Int) : ∀ c, 0 ≤ c → (∀ s ∈ ss, 0 ≤ s) → val (carryOn c ss) = c + val ss := by
  induction ss with
  | nil =>
    intro c hc _
    unfold carryOn
    split
    · simp [val]
    · simp [val]; omega
  | cons s ss ih =>
    intro c hc hs
    have h0 := hs s (List.mem_cons_self ..)
    simp only [carryOn, val]
    rw [ih _ (by omega) (fun x hx => hs x (List.mem_cons_of_mem _ hx))]
    omega
theorem carryOn_dig (ss : List Int) : ∀ c, 0 ≤ c → c < 1073741824 → (∀ s ∈ ss, 0 ≤ s ∧ s ≤ 2147483646) → Dig (carryOn c ss) := by
  induction ss with
  | nil =>
    intro c hc hb _
    unfold carryOn
    split
    · exact Dig.cons ⟨hc, hb⟩ Dig.nil
    · exact Dig.nil
  | cons s ss ih =>
    intro c hc hb hs
    have h0 := hs s (List.mem_cons_self ..)
    exact Dig.cons (by omega) (ih _ (by omega) (by omega) (fun x hx => hs x (List.mem_cons_of_mem _ hx)))
theorem carryOn_length (ss : List Int) : ∀ c, (carryOn c ss).length ≤ ss.length + 1 := by
  induction ss with
  | nil => intro c; unfold carryOn; split <;> simp
  | cons s ss ih => intro c; have := ih ((c + s) / 1073741824); simp only [carryOn, List.length_cons]; omega
theorem padSum_bound (a : List Int) : ∀ b, Dig a → Dig b → ∀ s ∈ padSum a b, 0 ≤ s ∧ s ≤ 2147483646 := by
  induction a with
  | nil => intro b _ hb s hs; have := hb s (by simpa [padSum] using hs); omega
  | cons x a ih =>
    intro b ha hb s hs
    cases b with
    | nil => have := ha s (by simpa [padSum] using hs); omega
    | cons y b =>
      simp only [padSum, List.mem_cons] at hs
      rcases hs with rfl | hs
      · have := ha.head; have := hb.head; omega
      · exact ih b ha.tail hb.tail s hs

/-! ### taking away -/
def padDiff : List Int → List Int → List Int
  | [], _ => []
  | a, [] => a
  | x :: a, y :: b => (x - y) :: padDiff a b
theorem padDiff_nil (a : List Int) : padDiff a [] = a := by cases a <;> rfl
theorem padDiff_val (a : List Int) : ∀ b, b.length ≤ a.length → val (padDiff a b) = val a - val b := by
  induction a with
  | nil => intro b h; obtain rfl : b = [] := List.eq_nil_of_length_eq_zero (by simpa using h); rfl
  | cons x a ih =>
    intro b h
    cases b with
    | nil => simp [padDiff, val]
    | cons y b => simp only [padDiff, val, ih b (by simpa using h)]; omega
theorem padDiff_length (a : List Int) : ∀ b, (padDiff a b).length = a.length := by
  induction a with
  | nil => intro b; simp [padDiff]
  | cons x a ih => intro b; cases b with
    | nil => simp [padDiff]
    | cons y b => simp [padDiff, ih]
theorem padDiff_drop (a : List Int) : ∀ (b : List Int) (k : Nat), (padDiff a b).drop k = padDiff (a.drop k) (b.drop k) := by
  induction a with
  | nil => intro b k; simp [padDiff]
  | cons x a ih =>
    intro b k
    cases b with
    | nil => simp [padDiff_nil]
    | cons y b =>
      cases k with
      | zero => rfl
      | succ k => simpa [padDiff] using ih b k
theorem padDiff_bound (a : List Int) : ∀ b, Dig a → Dig b → ∀ s ∈ padDiff a b, -1073741824 < s ∧ s < 1073741824 := by
  induction a with
  | nil => intro b _ _ s hs; cases hs
  | cons x a ih =>
    intro b ha hb s hs
    cases b with
    | nil => have := ha s (by simpa [padDiff] using hs); omega
    | cons y b =>
      simp only [padDiff, List.mem_cons] at hs
      rcases hs with rfl | hs
      · have := ha.head; have := hb.head; omega
      · exact ih b ha.tail hb.tail s hs
def borrowOn (c : Int) : List Int → List Int
  | [] => []
  | s :: ss => if s - c < 0 then (s - c + 1073741824) :: borrowOn 1 ss else (s - c) :: borrowOn 0 ss
theorem borrowOn_length (ss : List Int) : ∀ c, (borrowOn c ss).length = ss.length := by
  induction ss with
  | nil => intro c; rfl
  | cons s ss ih => intro c; unfold borrowOn; split <;> simp [ih]
theorem borrowOn_dig (ss : List Int) : ∀ c, 0 ≤ c → c ≤ 1 → (∀ s ∈ ss, -1073741824 < s ∧ s < 1073741824) → Dig (borrowOn c ss) := by
  induction ss with
  | nil => intro c _ _ _; exact Dig.nil
  | cons s ss ih =>
    intro c h0 h1 hs
    have hs0 := hs s (List.mem_cons_self ..)
    have hs1 := fun x hx => hs x (List.mem_cons_of_mem _ hx)
    unfold borrowOn
    split
    · exact Dig.cons (by omega) (ih 1 (by omega) (by omega) hs1)
    · exact Dig.cons (by omega) (ih 0 (by omega) (by omega) hs1)
theorem borrowOn_val (ss : List Int) : ∀ c, 0 ≤ c → c ≤ 1 → ∃ r : Int, (r = 0 ∨ r = 1) ∧ val (borrowOn c ss) = val ss - c + r * pw ss.length := by
  induction ss with
  | nil => intro c h0 h1; exact ⟨c, by omega, by simp [borrowOn, val, pw]; omega⟩
  | cons s ss ih =>
    intro c h0 h1
    unfold borrowOn
    split
    · obtain ⟨r, hr, h⟩ := ih 1 (by omega) (by omega)
      refine ⟨r, hr, ?_⟩
      simp only [val, h, List.length_cons, pw_succ]
      rw [Int.mul_left_comm]
      omega
    · obtain ⟨r, hr, h⟩ := ih 0 (by omega) (by omega)
      refine ⟨r, hr, ?_⟩
      simp only [val, h, List.length_cons, pw_succ]
      rw [Int.mul_left_comm]
      omega
theorem less_val {a b : List Int} (ha : Dig a) (hb : Dig b) (hl : b.length ≤ a.length) (h : val b ≤ val a) : val (borrowOn 0 (padDiff a b)) = val a - val b := by
  obtain ⟨r, hr, hv⟩ := borrowOn_val (padDiff a b) 0 (by omega) (by omega)
  rw [padDiff_val a b hl, padDiff_length] at hv
  have h1 := val_lt (borrowOn_dig (padDiff a b) 0 (by omega) (by omega) (padDiff_bound a b ha hb))
  rw [borrowOn_length, padDiff_length] at h1
  have h2 := pw_pos a.length
  rcases hr with rfl | rfl
  · omega
  · omega

/-! ### trimming -/
theorem val_trim {ds : List Int} {n : Nat} (h : ∀ d ∈ ds.drop n, d = 0) : val (ds.take n) = val ds := by
  have e := val_append (ds.take n) (ds.drop n)
  rw [List.take_append_drop] at e
  have hz : ∀ l : List Int, (∀ d ∈ l, d = 0) → val l = 0 := by
    intro l
    induction l with
    | nil => intro _; rfl
    | cons x l ih => intro hl; simp only [val, hl x (List.mem_cons_self ..), ih (fun d hd => hl d (List.mem_cons_of_mem _ hd))]; omega
  rw [hz _ h] at e
  omega

/-! ### a digit times a row -/
/-- x times the digits bs, added onto os from the low end, c carried in -/
def row (x c : Int) : List Int → List Int → List Int
  | [], _ => []
  | o :: os, [] => (o + c) :: os
  | o :: os, y :: bs => (o + x * y + c) % 1073741824 :: row x ((o + x * y + c) / 1073741824) os bs
def mulOn : List Int → List Int → List Int → List Int
  | [], os, _ => os
  | x :: a, os, b => match row x 0 os b with
    | [] => []
    | o :: rest => o :: mulOn a rest b
theorem row_length (x : Int) (os : List Int) : ∀ (c : Int) (bs : List Int), (row x c os bs).length = os.length := by
  induction os with
  | nil => intro c bs; rfl
  | cons o os ih => intro c bs; cases bs <;> simp [row, ih]
theorem row_val (x : Int) (os : List Int) : ∀ (c : Int) (bs : List Int), bs.length < os.length → val (row x c os bs) = val os + x * val bs + c := by
  induction os with
  | nil => intro c bs h; simp at h
  | cons o os ih =>
    intro c bs h
    cases bs with
    | nil => simp only [row, val]; omega
    | cons y bs =>
      simp only [row, val]
      rw [ih _ bs (by simpa using h)]
      rw [Int.mul_add x y, Int.mul_left_comm x]
      omega
theorem prod_bound {x y : Int} (hx : 0 ≤ x ∧ x < 1073741824) (hy : 0 ≤ y ∧ y < 1073741824) : 0 ≤ x * y ∧ x * y ≤ 1152921502459363329 := by
  refine ⟨Int.mul_nonneg hx.1 hy.1, ?_⟩
  have h1 := Int.mul_le_mul_of_nonneg_right (show x ≤ 1073741823 by omega) hy.1
  have h2 := Int.mul_le_mul_of_nonneg_left (show y ≤ 1073741823 by omega) (show (0 : Int) ≤ 1073741823 by omega)
  omega
/-- digits stay digits, where the place behind the row is nought -/
theorem row_dig (x : Int) (hx : 0 ≤ x ∧ x < 1073741824) (os : List Int) : ∀ (c : Int) (bs : List Int), 0 ≤ c → c < 1073741824 → Dig os → Dig bs → os[bs.length]? = some 0 → Dig (row x c os bs) := by
  induction os with
  | nil => intro c bs _ _ _ _ h; simp at h
  | cons o os ih =>
    intro c bs h0 h1 ho hb hz
    cases bs with
    | nil =>
      simp at hz
      subst hz
      exact Dig.cons (by omega) ho.tail
    | cons y bs =>
      have hy := hb.head
      have hoo := ho.head
      have hp := prod_bound hx hy
      exact Dig.cons (by omega) (ih _ bs (by omega) (by omega) ho.tail hb.tail (by simpa using hz))
/-- what lies behind the row stays -/
theorem row_behind (x : Int) (os : List Int) : ∀ (c : Int) (bs : List Int) (j : Nat), bs.length < j → (row x c os bs)[j]? = os[j]? := by
  induction os with
  | nil => intro c bs j _; rfl
  | cons o os ih =>
    intro c bs j h
    cases j with
    | zero => omega
    | succ j =>
      cases bs with
      | nil => simp [row]
      | cons y bs => simpa [row] using ih _ bs j (by simpa using h)
theorem mulOn_val (a : List Int) : ∀ os b, os.length = a.length + b.length → val (mulOn a os b) = val os + val a * val b := by
  induction a with
  | nil => intro os b _; simp [mulOn, val]
  | cons x a ih =>
    intro os b h
    have hl : b.length < os.length := by rw [h, List.length_cons]; omega
    have hv := row_val x os 0 b hl
    have hlen := row_length x os 0 b
    unfold mulOn
    generalize row x 0 os b = r at hv hlen
    cases r with
    | nil => simp only [List.length_nil] at hlen; omega
    | cons o rest =>
      simp only [val] at hv ⊢
      rw [ih rest b (by simp only [List.length_cons] at hlen h; omega)]
      rw [Int.add_mul, Int.mul_add, Int.mul_assoc]
      omega
theorem mulOn_dig (a : List Int) : ∀ os b, os.length = a.length + b.length → Dig a → Dig os → Dig b → (∀ j, b.length ≤ j → ∀ d, os[j]? = some d → d = 0) → Dig (mulOn a os b) := by
  induction a with
  | nil => intro os b _ _ ho _ _; exact ho
  | cons x a ih =>
    intro os b h ha ho hb hz
    have hl : b.length < os.length := by rw [h, List.length_cons]; omega
    have h0 : os[b.length]? = some 0 := by
      rw [List.getElem?_eq_getElem hl, hz b.length (Nat.le_refl _) _ (List.getElem?_eq_getElem hl)]
    have hd := row_dig x ha.head os 0 b (by omega) (by omega) ho hb h0
    have hlen := row_length x os 0 b
    have hbh := row_behind x os 0 b
    unfold mulOn
    generalize row x 0 os b = r at hd hlen hbh
    cases r with
    | nil => exact Dig.nil
    | cons o rest =>
      refine Dig.cons hd.head (ih rest b (by simp only [List.length_cons] at hlen h; omega) ha.tail hd.tail hb (fun j hj d hdj => ?_))
      have := hbh (j + 1) (by omega)
      rw [List.getElem?_cons_succ, hdj] at this
      exact hz (j + 1) (by omega) d this.symm
end Go.Proofs.YtkheoaleamolcaaDoor
