/-
  SimulHome answers true at every input, and the input reads as before; no condition beyond the row's own.
-/
import Derived.Test.YtdogddngiolpoaaHz
import Derived.Test.YtdogddngiolpoaaLQ
namespace Go.Proofs.Ytdogddngiolpoaa.simulHome
open Go.ChangeShapes Go.WideShapes Go.ChangeAt Go.RowKit

theorem contract (H : Type) (enc : TypeId × Value → H) (W : World) (base : Nat) (args : Array Value) (ds gs : List (DataW H)) (before : List MemPlace)
    (hval : ∀ (j : Nat) t v, Try.f8.params[j]? = some t → args[j]? = some v → Value.okWide Try.prog W .any base t v)
    (hW : DataW.Whole enc Try.prog Try.f8.params.toList Rows.simulHomeSpec.vars false W args.toList ds gs before)
    (hz : (DataW.weightsEach Try.prog [24, 25, 25] ds).all (· ≤ reachBytes) = true) :
    Calls Try.prog 8 args W fun e W' => ∃ v, e = .returned v ∧ Rows.simulHomeSpec.post enc Try.prog Try.f8 false true false false W args v W' := by
  have hW' := hW
  obtain ⟨p, q, hA0, hV, rfl, hfz, hnd⟩ := hW
  have hA : DataW.TrodAll enc Try.prog W 0 (fun _ => true) true Try.f8.params.toList args.toList ds p := hA0
  rw [Try.params8] at hA hval
  obtain ⟨v0, vs0, d0, ds0, p0, q0, hargs, rfl, rfl, h0, r0⟩ := trodAll_cons hA
  obtain ⟨v1, vs1, d1, ds1, p1, q1, rfl, rfl, rfl, h1, r1⟩ := trodAll_cons r0
  obtain ⟨v2, vs2, d2, ds2, p2, q2, rfl, rfl, rfl, h2, r2⟩ := trodAll_cons r1
  obtain ⟨rfl, rfl, rfl⟩ := trodAll_nil r2
  obtain rfl : args = #[v0, v1, v2] := by cases args; simp_all
  obtain ⟨rfl, rfl⟩ := trodVars_none hV
  obtain ⟨n0, A0, l0, c0, ars0, rfl, fn0, hl0, lc0, f0, R0, z0, m0⟩ := open_net (hval 0 24 v0 rfl rfl) h0 hz (j := 0) rfl rfl
  obtain ⟨A1, n1, c1, xs1, rfl, l1, lc1, f1, R1, z1⟩ := open_list (hval 1 25 v1 rfl rfl) h1 hz (j := 1) rfl rfl
  obtain ⟨A2, n2, c2, xs2, rfl, l2, lc2, f2, R2, z2⟩ := open_list (hval 2 25 v2 rfl rfl) h2 hz (j := 2) rfl rfl
  refine (homeLaw_any n0 ars0 A0 l0 c0 xs1 A1 n1 c1 xs2 A2 n2 c2 W hl0 f0 R0 m0 l1 lc1 f1 R1 z1 l2 lc2 f2 R2 z2).mono fun e W' ⟨he, hb⟩ => ?_
  subst he
  exact ⟨_, rfl, law_post laidOut (by rw [Try.params8]; kernel_rfl) rfl rfl Try.underlying4 hW' rfl rfl rfl hb⟩

theorem laid_met (os : Os) : laidMet Try.prog Rows.simulHomeRow.laid ((heldWorld os).forCall (fun _ _ => 0) ⟨#[], #[.agg #[.int .i64 0, .slice none 0 0], .slice none 0 0, .slice none 0 0], []⟩).memory :=
  laidMet_of_run' 8 (by kernel_rfl) (by kernel_rfl)
theorem reads (os : Os) {H : Type} (enc : TypeId × Value → H) : ∃ places, DataW.whole enc Try.prog ((heldWorld os).forCall (fun _ _ => 0) ⟨#[], #[.agg #[.int .i64 0, .slice none 0 0], .slice none 0 0, .slice none 0 0], []⟩).memory Try.f8.params.toList Rows.simulHomeSpec.vars false (#[.agg #[.int .i64 0, .slice none 0 0], .slice none 0 0, .slice none 0 0] : Array Value).toList 8 = some ([.agg [.lit (.int .i64 0), .nil], .nil, .nil], [], places) :=
  ⟨[], by kernel_rfl⟩

set_option maxRecDepth 100000 in
theorem lifted (os : Os) (started : os.Started) (H : Type) (enc : TypeId × Value → H) (F : Stop.Interp) :
    ReturnsInHanded {} Try.checked os 8 .any ((OpenSpec.ofChange Rows.simulHomeSpec).preRow enc Try.prog Try.f8 Rows.simulHomeRow.domain false Rows.simulHomeRow.laid) (((OpenSpec.ofChange Rows.simulHomeSpec).at F).post enc Try.prog Try.f8 false true false false) := by
  obtain ⟨places, hx⟩ := reads os enc
  refine returnsInHanded_of_row (C := Try.checked) (s := OpenSpec.ofChange Rows.simulHomeSpec) own started (by kernel_rfl) Try.func8
    (witness_row_at (enc := enc) (C := Try.checked) false (heldWorld os) #[.agg #[.int .i64 0, .slice none 0 0], .slice none 0 0, .slice none 0 0] rfl (by kernel_rfl) (by kernel_rfl) (by kernel_rfl)
      (OpenSpec.preRow_of_cond 8 hx (by kernel_rfl) (fun k hk => by cases hk) (by kernel_rfl) (laid_met os))) ?_
  intro W base args ds gs before hval hW _ _ hz _ _ _
  have hz' : (DataW.weightsEach Try.prog [24, 25, 25] ds).all (· ≤ reachBytes) = true := by
    have hV : gs = [] := by obtain ⟨_, _, _, hV, _⟩ := hW; exact (trodVars_none hV).1
    subst hV
    have e : Try.f8.params.toList ++ (OpenSpec.ofChange Rows.simulHomeSpec).bare.plain.varTypes Try.prog = [24, 25, 25] := by rw [Try.params8]; rfl
    have h0 : (DataW.weightsEach Try.prog (Try.f8.params.toList ++ (OpenSpec.ofChange Rows.simulHomeSpec).bare.plain.varTypes Try.prog) (ds ++ [])).all (· ≤ reachBytes) = true := hz
    rw [e, List.append_nil] at h0
    exact h0
  exact contract H enc W base args ds gs before hval hW hz'

theorem said : Rows.SimulHomeSaid :=
  OpenClaim.holds_of_cond 8 Try.f8 rfl rfl rfl rfl rfl rfl rfl ⟨rfl, rfl, rfl, rfl, rfl⟩ rfl rfl rfl rfl rfl (by kernel_rfl) Try.func8 (by kernel_rfl)
    (of_decide_eq_true (by kernel_rfl)) (by unfold Func.isWrapper; first | (rw [if_pos (by decide +kernel)]; kernel_rfl) | (rw [if_neg (by decide +kernel)]; exact ⟨rfl, rfl⟩))
    (fun os started H enc _ F => by rw [OpenClaim.pre_eq_preRow]; exact lifted os started H enc F)
end Go.Proofs.Ytdogddngiolpoaa.simulHome
