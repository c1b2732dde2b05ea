/-
  net.State: Fire, Fired, Counts.
-/
import Derived.Test.YtdogddngiolpoaaSb
import Derived.BigRegion
namespace Go.Proofs.Ytdogddngiolpoaa
open Go.RowKit

theorem onlySet (w : World) (a : Addr) (v : Value) : Only (fun k => k = a.block) w (w.setCell a v) := ⟨rfl, rfl, rfl, by simp, fun k _ hk => Below.heap_setCell w a v k hk⟩
theorem Only.mono {X Y : Nat → Prop} {w w' : World} (h : Only X w w') (hXY : ∀ k, k < w.heap.size → X k → Y k) : Only Y w w' := ⟨h.os, h.tape, h.output, h.size, fun k hk hY => h.block k hk (fun hX => hY (hXY k hk hX))⟩
theorem Only.trans {X : Nat → Prop} {w w' w'' : World} (h : Only X w w') (h' : Only X w' w'') : Only X w w'' :=
  ⟨h'.os.trans h.os, h'.tape.trans h.tape, h'.output.trans h.output, Nat.le_trans h.size h'.size, fun k hk hX => (h'.block k (by have := h.size; omega) hX).trans (h.block k hk hX)⟩
theorem Only.refl (X : Nat → Prop) (w : World) : Only X w w := ⟨rfl, rfl, rfl, Nat.le_refl _, fun _ _ _ => rfl⟩
theorem Only.drawn {X : Nat → Prop} {w w' w'' : World} (h : Only X w w') (hd : Drawn w' w'') : Only X w w'' := by obtain ⟨d, rfl⟩ := hd; exact ⟨h.os, h.tape, h.output, h.size, h.block⟩
theorem rowF_set (T : Nat → Int) (n i : Nat) (x : Int) : (rowF T n).set i x = rowF (upd T i x) n := by unfold rowF; rw [map_upd]
theorem StT.setTok {w : World} {B : Nat} {s : SM} {n : Nat} {ars : List ArcV} {T F : Nat → Int} (h : StT w B s n ars T F) (i : Nat) (x : Int) : StT (w.setCell ⟨s.gt, i, none⟩ (.int .i64 x)) B s n ars (upd T i x) F := by
  have st := h.tok.stored i (.int .i64 x)
  rw [cellsI_put, rowF_set] at st
  refine h.only (onlySet w _ _) (fun k h1 _ _ h3 => h1 h3) st.1 (own_only h.fir (onlySet w _ _) ?_)
  intro b hb he
  simp only [Value.ownBlock] at hb
  injection hb with hb
  exact h.gtf (by rw [hb]; exact he.symm)
theorem StT.setFir {w : World} {B : Nat} {s : SM} {n : Nat} {ars : List ArcV} {T F : Nat → Int} (h : StT w B s n ars T F) (i : Nat) (x : Int) : StT (w.setCell ⟨s.gf, i, none⟩ (.int .i64 x)) B s n ars T (upd F i x) := by
  have st := h.fir.stored i (.int .i64 x)
  rw [cellsI_put, rowF_set] at st
  refine h.only (onlySet w _ _) (fun k _ h2 _ h3 => h2 h3) (own_only h.tok (onlySet w _ _) ?_) st.1
  intro b hb he
  simp only [Value.ownBlock] at hb
  injection hb with hb
  exact h.gtf (by rw [hb]; exact he)
theorem StT.congr {w : World} {B : Nat} {s : SM} {n : Nat} {ars : List ArcV} {T T' F F' : Nat → Int} (h : StT w B s n ars T F) (hT : ∀ i, i < ars.length → T i = T' i) (hF : ∀ j, j < n → F j = F' j) : StT w B s n ars T' F' := by
  have e1 : rowF T' ars.length = rowF T ars.length := List.map_congr_left fun i hi => (hT i (List.mem_range.1 hi)).symm
  have e2 : rowF F' n = rowF F n := List.map_congr_left fun j hj => (hF j (List.mem_range.1 hj)).symm
  exact { h with tok := by rw [e1]; exact h.tok, fir := by rw [e2]; exact h.fir }

/-- a node fires -/
def bump (F : Nat → Int) (v : Nat) : Nat → Int := upd F v (F v + 1)
/-- how many of a row fire, and what has fired then -/
def fireN (ars : List ArcV) (n : Nat) : (Nat → Int) → List Int → Nat
  | _, [] => 0
  | F, v :: vs => if mayB ars n F v = true then fireN ars n (bump F v.toNat) vs + 1 else 0
def fireF (ars : List ArcV) (n : Nat) : (Nat → Int) → List Int → Nat → Int
  | F, [] => F
  | F, v :: vs => if mayB ars n F v = true then fireF ars n (bump F v.toNat) vs else F
theorem tok_bump (ars : List ArcV) {n : Nat} (F : Nat → Int) {i v : Nat} (ha : (arcAt ars i).ok n) : tokI ars (bump F v) i = (if (arcAt ars i).f = v then (tokI ars F i - if (arcAt ars i).t = v then (arcAt ars i).k else 0) + (arcAt ars i).g else tokI ars F i - if (arcAt ars i).t = v then (arcAt ars i).k else 0) := by
  unfold tokI
  generalize arcAt ars i = a at *
  obtain ⟨h1, h2, h3, h4, _⟩ := ha
  have e1 : bump F v a.f.toNat = F a.f.toNat + if a.f = v then 1 else 0 := by
    unfold bump
    by_cases h : a.f = v
    · rw [if_pos h, h, Int.toNat_natCast, upd_self]
    · rw [if_neg h, upd_other (by omega), Int.add_zero]
  have e2 : bump F v a.t.toNat = F a.t.toNat + if a.t = v then 1 else 0 := by
    unfold bump
    by_cases h : a.t = v
    · rw [if_pos h, h, Int.toNat_natCast, upd_self]
    · rw [if_neg h, upd_other (by omega), Int.add_zero]
  unfold tokA
  rw [e1, e2, Int.mul_add, Int.mul_add]
  by_cases h5 : a.f = v <;> by_cases h6 : a.t = v
  · rw [if_pos h5, if_pos h5, if_pos h6, if_pos h6]; omega
  · rw [if_pos h5, if_pos h5, if_neg h6, if_neg h6]; omega
  · rw [if_neg h5, if_neg h5, if_pos h6, if_pos h6]; omega
  · rw [if_neg h5, if_neg h5, if_neg h6, if_neg h6]; omega
/-- what has been taken so far, what has been given -/
def took (ars : List ArcV) (T : Nat → Int) (I : List Nat) : Nat → Int := fun i => if i ∈ I then T i - (arcAt ars i).k else T i
def gave (ars : List ArcV) (T : Nat → Int) (I : List Nat) : Nat → Int := fun i => if i ∈ I then T i + (arcAt ars i).g else T i
theorem take_step {I : List Nat} {q i : Nat} (hg : I[q]? = some i) : I.take (q + 1) = I.take q ++ [i] := by
  rw [List.take_add_one, hg]; rfl
theorem not_taken {I : List Nat} (hn : I.Nodup) {q i : Nat} (hg : I[q]? = some i) : i ∉ I.take q := by
  intro hm
  obtain ⟨j, hj, he⟩ := List.mem_take_iff_getElem.1 hm
  obtain ⟨hq, hgi⟩ := List.getElem?_eq_some_iff.1 hg
  exact List.pairwise_iff_getElem.1 hn j q (by omega) hq (by omega) (he.trans hgi.symm)
theorem took_step {ars : List ArcV} {T : Nat → Int} {I : List Nat} (hn : I.Nodup) {q i : Nat} (hg : I[q]? = some i) : upd (took ars T (I.take q)) i (took ars T (I.take q) i - (arcAt ars i).k) = took ars T (I.take (q + 1)) := by
  have hni := not_taken hn hg
  funext j
  unfold took
  rw [take_step hg]
  by_cases hj : j = i
  · subst hj
    rw [upd_self, if_neg hni, if_pos (by simp)]
  · rw [upd_other hj]
    by_cases hm : j ∈ I.take q
    · rw [if_pos hm, if_pos (List.mem_append_left _ hm)]
    · rw [if_neg hm, if_neg (by simp [hm, hj])]
theorem gave_step {ars : List ArcV} {T : Nat → Int} {I : List Nat} (hn : I.Nodup) {q i : Nat} (hg : I[q]? = some i) : upd (gave ars T (I.take q)) i (gave ars T (I.take q) i + (arcAt ars i).g) = gave ars T (I.take (q + 1)) := by
  have hni := not_taken hn hg
  funext j
  unfold gave
  rw [take_step hg]
  by_cases hj : j = i
  · subst hj
    rw [upd_self, if_neg hni, if_pos (by simp)]
  · rw [upd_other hj]
    by_cases hm : j ∈ I.take q
    · rw [if_pos hm, if_pos (List.mem_append_left _ hm)]
    · rw [if_neg hm, if_neg (by simp [hm, hj])]
theorem intoF_nodup (ars : List ArcV) (m v : Nat) : (intoF ars m v).Nodup := List.Pairwise.filter _ List.nodup_range
theorem outF_nodup (ars : List ArcV) (m v : Nat) : (outF ars m v).Nodup := List.Pairwise.filter _ List.nodup_range
theorem took_gave {ars : List ArcV} {n : Nat} (F : Nat → Int) {i v : Nat} (ha : (arcAt ars i).ok n) (hi : i < ars.length) : gave ars (took ars (tokI ars F) (intoF ars ars.length v)) (outF ars ars.length v) i = tokI ars (bump F v) i := by
  rw [tok_bump ars F ha]
  unfold gave took intoF outF
  simp only [List.mem_filter, List.mem_range, hi, true_and, decide_eq_true_eq]
  by_cases h5 : (arcAt ars i).f = v <;> by_cases h6 : (arcAt ars i).t = v <;> simp [h5, h6]
theorem small_bump {n m : Nat} {F : Nat → Int} {v : Nat} (h : ∀ j, j < n → 0 ≤ F j ∧ F j ≤ m) : ∀ j, j < n → 0 ≤ bump F v j ∧ bump F v j ≤ (m + 1 : Nat) := by
  intro j hj
  unfold bump
  by_cases hv : j = v
  · subst hv; rw [upd_self]; have := h j hj; omega
  · rw [upd_other hv]; have := h j hj; omega

set_option maxRecDepth 100000 in
set_option maxHeartbeats 4000000 in
theorem fire_any (vs : List Int) (Av : Option Addr) (l c n : Nat) (ars : List ArcV) (F : Nat → Int) (B : Nat) (s : SM) (w : World) (hl : vs.length = l) (hfv : AllFit vs) (hr : Rd w w.heap.size Av (cellsI vs)) (hat : blkOf Av ≠ some s.gt) (haf : blkOf Av ≠ some s.gf)
    (hN : NetOk n ars) (hF : ∀ j, j < n → 0 ≤ F j ∧ F j + l ≤ 1000000) (hS : St w B s n ars F) :
    Calls Try.prog 22 #[.pointer (some ⟨s.gs, 0, none⟩), .slice Av l c] w fun e w' => e = .returned (.int .i64 (fireN ars n F vs : Nat)) ∧ St w' B s n ars (fireF ars n F vs) ∧ Only (fun k => k = s.gt ∨ k = s.gf) w w' := by
  subst hl
  have l96 := hN.l96
  have n32 := hN.n32
  have hlm : vs.length ≤ 1000000 := by have := hF 0 (by have := hN.pos; omega); omega
  have hrd : ∀ wr : World, Only (fun k => k = s.gt ∨ k = s.gf) w wr → Rd wr w.heap.size Av (cellsI vs) := fun wr ho => hr.only ho (Nat.le_refl _) (fun b hb hx => by
    rcases hx with rfl | rfl
    · exact hat hb
    · exact haf hb)
  have Hrd := Lib.hid hrd
  have HF := Lib.hid hF
  have HN := Lib.hid hN
  have Hfv := Lib.hid hfv
  clear hrd hF hN hat haf hr hfv
  go_enter Try.func22, Try.ntmps22
  go_wp2_with fail
  go_loopw [15] (fun i wr => ∃ (q : Nat) (G : Nat → Int), q ≤ vs.length ∧ i = .int .i64 q ∧ Only (fun k => k = s.gt ∨ k = s.gf) w wr ∧ St wr B s n ars G ∧ Hid (∀ j, j < n → 0 ≤ G j ∧ G j ≤ F j + q) ∧ Hid (fireN ars n F vs = fireN ars n G (vs.drop q) + q) ∧ Hid (fireF ars n F vs = fireF ars n G (vs.drop q))) (fun i _ => vs.length - (intOf i).toNat)
  case atStart => exact ⟨0, F, by omega, rfl, Only.refl _ _, hS, fun j hj => by have := HF.out j hj; omega, rfl, rfl⟩
  case round =>
    clear hS
    obtain ⟨q, G, hq, rfl, hO, hS, hG, hE1, hE2⟩ := hrel
    by_cases hlt : q < vs.length
    · obtain ⟨b, off, x, rfl, hb, hxf, hc, hd, hxx⟩ := (Hrd.out wr hO).at_ Hfv.out hlt
      have hsm : small n G := fun j hj => by have h1 := hG.out j hj; have h2 := HF.out j hj; omega
      go_wp2_with fail
      refine (may_any x n ars G B s wr HN.out hsm hS).mono ?_; rintro e w1 ⟨rfl, d1⟩
      have hS1 := hS.drawn d1
      have hO1 := hO.drawn d1
      by_cases hmay : mayB ars n G x = true
      · rw [hmay]
        have hx0 : 0 ≤ x ∧ x < n := by unfold mayB at hmay; simp at hmay; exact hmay.1
        obtain ⟨k, rfl⟩ : ∃ k : Nat, x = k := ⟨x.toNat, by omega⟩
        have hk : k < n := by omega
        have c1 := hS1.blk.cell 1
        simp at c1
        have ci := hS1.inb k hk
        obtain ⟨I, hI⟩ : ∃ I, intoF ars ars.length k = I := ⟨_, rfl⟩
        obtain ⟨Ai, hAi⟩ : ∃ Ai, s.Ai k = Ai := ⟨_, rfl⟩
        rw [hI, hAi] at ci
        have hIn : I.Nodup := hI ▸ intoF_nodup ars ars.length k
        have hIl : ∀ i ∈ I, i < ars.length := hI ▸ fun i hi => intoF_lt hi
        have hIc : I.length ≤ 96 := by
          rw [← hI]; unfold intoF
          have := List.length_filter_le (fun i => decide ((arcAt ars i).t = k)) (List.range ars.length)
          simp at this; simp; omega
        have HI := Lib.hid hI
        have HAi := Lib.hid hAi
        have HIn := Lib.hid hIn
        have HIl := Lib.hid hIl
        have Hsm := Lib.hid hsm
        have Hmay := Lib.hid hmay
        have HS0 := Lib.hid hS1
        have HO0 := Lib.hid hO1
        clear hI hAi hIn hIl hsm hmay hS hS1 hO hO1 d1 hc hb
        go_wp2_with fail
        refine (needs_any s.gs s.gi n n _ k w1 hk c1 ci).mono ?_; rintro e w' ⟨rfl, rfl⟩
        go_wp2_with fail
        go_loopw [31] (fun i wr => ∃ r : Nat, r ≤ I.length ∧ i = .int .i64 r ∧ Only (fun k => k = s.gt ∨ k = s.gf) w wr ∧ StT wr B s n ars (took ars (tokI ars G) (I.take r)) G) (fun i _ => I.length - (intOf i).toNat)
        case atStart => exact ⟨0, by omega, rfl, HO0.out, StT.congr HS0.out (fun i _ => by simp [took]) (fun _ _ => rfl)⟩
        case round =>
          clear c1 ci
          obtain ⟨r, hr', rfl, hO, hS⟩ := hrel
          by_cases hlr : r < I.length
          · have hrow := hS.inr k hk
            rw [HAi.out, HI.out] at hrow
            obtain ⟨b1, off1, i, rfl, hb1, hi, hci, hdr, hgi⟩ := rowsAt hrow HIl.out (by omega) hlr
            obtain ⟨b2, off2, a, hA2, hb2, hf2, c00, c01, c02, c03, c04, hd2, hxx2⟩ := hS.arcs.arc HN.out.fit hi
            have ha := arcAt_some hxx2.out
            have htf := tokA_fit (HN.out.ok a (List.mem_of_getElem? hxx2.out)) Hsm.out
            have hok := HN.out.ok a (List.mem_of_getElem? hxx2.out)
            obtain ⟨_, _, _, _, hg1, hg2, hk1, hk2, _⟩ := hok
            have ht : took ars (tokI ars G) (I.take r) i = tokA G a := by
              unfold took; rw [if_neg (not_taken HIn.out hgi.out)]; unfold tokI; rw [ha]
            have ct := hS.tokCell hi
            rw [ht] at ct
            have d0 := hS.blk.cell 0
            have d3 := hS.blk.cell 3
            simp at d0 d3
            rw [hA2] at d0
            have fro := hS.tok.frozenAt i
            have S2 := hS.setTok i (tokA G a - a.k)
            have O2 := hO.trans ((onlySet wr ⟨s.gt, i, none⟩ (.int .i64 (tokA G a - a.k))).mono (Y := fun k => k = s.gt ∨ k = s.gf) (fun k _ hk => .inl hk))
            have e2 : upd (took ars (tokI ars G) (I.take r)) i (tokA G a - a.k) = took ars (tokI ars G) (I.take (r + 1)) := by
              rw [← took_step HIn.out hgi.out, ht, ha]
            rw [e2] at S2
            have h1 : (0 : Int) ≤ (i : Int) := by omega
            have h2 : (i : Int) < (ars.length : Int) := by omega
            clear e2 hO hS hrow hb1 hb2 ht
            go_wp2
            go_region
            go_wp2
            go_roundw
            case rel => exact ⟨r + 1, by omega, by go_num, O2.drawn ⟨1, rfl⟩, S2.drawn ⟨1, rfl⟩⟩
            case measure => simp [intOf]; omega
          · obtain rfl : r = I.length := by omega
            rw [List.take_length] at hS
            have c2 := hS.blk.cell 2
            simp at c2
            have co := hS.outb k hk
            obtain ⟨J, hJ⟩ : ∃ J, outF ars ars.length k = J := ⟨_, rfl⟩
            obtain ⟨Ao, hAo⟩ : ∃ Ao, s.Ao k = Ao := ⟨_, rfl⟩
            rw [hJ, hAo] at co
            have hJn : J.Nodup := hJ ▸ outF_nodup ars ars.length k
            have hJl : ∀ i ∈ J, i < ars.length := hJ ▸ fun i hi => outF_lt hi
            have hJc : J.length ≤ 96 := by
              rw [← hJ]; unfold outF
              have := List.length_filter_le (fun i => decide ((arcAt ars i).f = k)) (List.range ars.length)
              simp at this; simp; omega
            have HJ := Lib.hid hJ
            have HAo := Lib.hid hAo
            have HJn := Lib.hid hJn
            have HJl := Lib.hid hJl
            have HS1 := Lib.hid hS
            have HO1 := Lib.hid hO
            clear hJ hAo hJn hJl hS hO
            go_wp2_with fail
            refine (feeds_any s.gs s.go n n _ k wr hk c2 co).mono ?_; rintro e w' ⟨rfl, rfl⟩
            go_wp2_with fail
            go_loopw [60] (fun i wx => ∃ r : Nat, r ≤ J.length ∧ i = .int .i64 r ∧ Only (fun k => k = s.gt ∨ k = s.gf) w wx ∧ StT wx B s n ars (gave ars (took ars (tokI ars G) I) (J.take r)) G) (fun i _ => J.length - (intOf i).toNat)
            case atStart => exact ⟨0, by omega, rfl, HO1.out, StT.congr HS1.out (fun i _ => by simp [gave]) (fun _ _ => rfl)⟩
            case round =>
              clear c2 co
              obtain ⟨r, hr'', rfl, hO, hS⟩ := hrel
              by_cases hlr2 : r < J.length
              · have hrow := hS.outr k hk
                rw [HAo.out, HJ.out] at hrow
                obtain ⟨b1, off1, i, rfl, hb1, hi, hci, hdr, hgi⟩ := rowsAt hrow HJl.out (by omega) hlr2
                obtain ⟨b2, off2, a, hA2, hb2, hf2, c00, c01, c02, c03, c04, hd2, hxx2⟩ := hS.arcs.arc HN.out.fit hi
                have ha := arcAt_some hxx2.out
                have htf := tokA_fit (HN.out.ok a (List.mem_of_getElem? hxx2.out)) Hsm.out
                have hok := HN.out.ok a (List.mem_of_getElem? hxx2.out)
                obtain ⟨_, _, _, _, hg1, hg2, hk1, hk2, _⟩ := hok
                obtain ⟨T, hT⟩ : ∃ T, gave ars (took ars (tokI ars G) I) (J.take r) i = T := ⟨_, rfl⟩
                have hTb : -64000064 ≤ T ∧ T ≤ 64000256 := by
                  rw [← hT]
                  unfold gave; rw [if_neg (not_taken HJn.out hgi.out)]; unfold took tokI; rw [ha]
                  split <;> omega
                have ct := hS.tokCell hi
                rw [hT] at ct
                have d0 := hS.blk.cell 0
                have d3 := hS.blk.cell 3
                simp at d0 d3
                rw [hA2] at d0
                have fro := hS.tok.frozenAt i
                have S2 := hS.setTok i (T + a.g)
                have O2 := hO.trans ((onlySet wr ⟨s.gt, i, none⟩ (.int .i64 (T + a.g))).mono (Y := fun k => k = s.gt ∨ k = s.gf) (fun k _ hk => .inl hk))
                have e2 : upd (gave ars (took ars (tokI ars G) I) (J.take r)) i (T + a.g) = gave ars (took ars (tokI ars G) I) (J.take (r + 1)) := by
                  rw [← gave_step HJn.out hgi.out, hT, ha]
                rw [e2] at S2
                have h1 : (0 : Int) ≤ (i : Int) := by omega
                have h2 : (i : Int) < (ars.length : Int) := by omega
                clear e2 hO hS hrow hb1 hb2 hT
                go_wp2
                go_region
                go_wp2
                go_roundw
                case rel => exact ⟨r + 1, by omega, by go_num, O2.drawn ⟨1, rfl⟩, S2.drawn ⟨1, rfl⟩⟩
                case measure => simp [intOf]; omega
              · obtain rfl : r = J.length := by omega
                rw [List.take_length] at hS
                have hS3 : St wr B s n ars (bump G k) → True := fun _ => trivial
                have hGk := hG.out k hk
                have hFk := HF.out k hk
                have S2 := hS.setFir k (G k + 1)
                have O2 := hO.trans ((onlySet wr ⟨s.gf, k, none⟩ (.int .i64 (G k + 1))).mono (Y := fun k => k = s.gt ∨ k = s.gf) (fun k _ hk => .inr hk))
                have S3 : St (wr.setCell ⟨s.gf, k, none⟩ (.int .i64 (G k + 1))) B s n ars (bump G k) := S2.congr (fun i hi => by
                  rw [← took_gave G (HN.out.ok _ (arcAt_mem hi)) hi, HI.out, HJ.out]) (fun _ _ => rfl)
                have d4 := hS.blk.cell 4
                simp at d4
                have ct := hS.firCell hk
                have fro := hS.fir.frozenAt k
                have hE1' : Hid (fireN ars n F vs = fireN ars n (bump G k) (vs.drop (q + 1)) + (q + 1)) := by
                  unfold Hid; rw [hE1.out, hd.out, fireN, if_pos Hmay.out, Int.toNat_natCast]; omega
                have hE2' : Hid (fireF ars n F vs = fireF ars n (bump G k) (vs.drop (q + 1))) := by
                  unfold Hid; rw [hE2.out, hd.out, fireF, if_pos Hmay.out, Int.toNat_natCast]
                have hG' : Hid (∀ j, j < n → 0 ≤ bump G k j ∧ bump G k j ≤ F j + (q + 1 : Nat)) := by
                  intro j hj
                  have := hG.out j hj
                  unfold bump
                  by_cases hjk : j = k
                  · subst hjk; rw [upd_self]; omega
                  · rw [upd_other hjk]; omega
                have h1 : (0 : Int) ≤ (k : Int) := by omega
                have h2 : (k : Int) < (n : Int) := by omega
                clear hO hS S2 hS3 hE1 hE2 hG
                go_wp2
                go_roundw
                case rel => exact ⟨q + 1, _, by omega, by go_num, O2, S3, hG', hE1', hE2'⟩
                case measure => simp [intOf]; omega
      · have hmf : mayB ars n G x = false := by simpa using hmay
        rw [hmf]
        go_wp2
        go_ret
        refine ⟨?_, ?_, hO1⟩
        · rw [hE1.out, hd.out, fireN, if_neg hmay]; simp
        · rw [hE2.out, hd.out, fireF, if_neg hmay]; exact hS1
    · go_wp2
      go_ret
      obtain rfl : q = vs.length := by omega
      refine ⟨?_, ?_, hO⟩
      · rw [hE1.out, List.drop_length]; simp [fireN]
      · rw [hE2.out, List.drop_length]; exact hS
end Go.Proofs.Ytdogddngiolpoaa
