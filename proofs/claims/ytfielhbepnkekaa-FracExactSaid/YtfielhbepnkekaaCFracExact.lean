/-
  FracExact answers true at every input, and the input reads as before; no condition beyond the row's own.
-/
import Derived.Test.YtfielhbepnkekaaLf2
import Derived.Test.YtfielhbepnkekaaKQ
namespace Go.Proofs.Ytfielhbepnkekaa.fracExact
open Go.ChangeShapes Go.WideShapes Go.ChangeAt Go.RowKit

theorem contract (H : Type) (enc : TypeId × Value → H) (W : World) (base : Nat) (args : Array Value) (ds gs : List (DataW H)) (before : List MemPlace)
    (hval : ∀ (j : Nat) t v, Try.f10.params[j]? = some t → args[j]? = some v → Value.okWide Try.prog W .any base t v)
    (hW : DataW.Whole enc Try.prog Try.f10.params.toList Rows.fracExactSpec.vars false W args.toList ds gs before)
    (hz : (DataW.weightsEach Try.prog [30] ds).all (· ≤ reachBytes) = true) :
    Calls Try.prog 10 args W fun e W' => ∃ v, e = .returned v ∧ Rows.fracExactSpec.post enc Try.prog Try.f10 false true false false W args v W' := by
  have hW' := hW
  obtain ⟨p, q, hA0, hV, rfl, hfz, hnd⟩ := hW
  have hA : DataW.TrodAll enc Try.prog W 0 (fun _ => true) true Try.f10.params.toList args.toList ds p := hA0
  rw [Try.params10] at hA hval
  obtain ⟨v0, vs0, d0, ds0, p0, q0, hargs, rfl, rfl, h0, r0⟩ := trodAll_cons hA
  obtain ⟨rfl, rfl, rfl⟩ := trodAll_nil r0
  obtain rfl : args = #[v0] := by cases args; simp_all
  obtain ⟨rfl, rfl⟩ := trodVars_none hV
  obtain ⟨A0, l0, c0, fs0, rfl, hl0, lc0, f0, R0, z0⟩ := open_fracs (hval 0 30 v0 rfl rfl) h0 hz (j := 0) rfl rfl
  refine (exactFLaw_any fs0 A0 l0 c0 W hl0 lc0 f0 R0 z0).mono fun e W' ⟨he, hb⟩ => ?_
  subst he
  exact ⟨_, rfl, law_post laidOut (by rw [Try.params10]; kernel_rfl) rfl rfl Try.underlying4 hW' rfl rfl rfl hb⟩

theorem laid_met (os : Os) : laidMet Try.prog Rows.fracExactRow.laid ((heldWorld os).forCall (fun _ _ => 0) ⟨#[], #[.slice none 0 0], []⟩).memory :=
  laidMet_of_run' 8 (by kernel_rfl) (by kernel_rfl)
theorem reads (os : Os) {H : Type} (enc : TypeId × Value → H) : ∃ places, DataW.whole enc Try.prog ((heldWorld os).forCall (fun _ _ => 0) ⟨#[], #[.slice none 0 0], []⟩).memory Try.f10.params.toList Rows.fracExactSpec.vars false (#[.slice none 0 0] : Array Value).toList 8 = some ([.nil], [], places) :=
  ⟨[], by kernel_rfl⟩

set_option maxRecDepth 100000 in
theorem lifted (os : Os) (started : os.Started) (H : Type) (enc : TypeId × Value → H) (F : Stop.Interp) :
    ReturnsInHanded {} Try.checked os 10 .any ((OpenSpec.ofChange Rows.fracExactSpec).preRow enc Try.prog Try.f10 Rows.fracExactRow.domain false Rows.fracExactRow.laid) (((OpenSpec.ofChange Rows.fracExactSpec).at F).post enc Try.prog Try.f10 false true false false) := by
  obtain ⟨places, hx⟩ := reads os enc
  refine returnsInHanded_of_row (C := Try.checked) (s := OpenSpec.ofChange Rows.fracExactSpec) own started (by kernel_rfl) Try.func10
    (witness_row_at (enc := enc) (C := Try.checked) false (heldWorld os) #[.slice none 0 0] rfl (by kernel_rfl) (by kernel_rfl) (by kernel_rfl)
      (OpenSpec.preRow_of_cond 8 hx (by kernel_rfl) (fun k hk => by cases hk) (by kernel_rfl) (laid_met os))) ?_
  intro W base args ds gs before hval hW _ _ hz _ _ _
  have hz' : (DataW.weightsEach Try.prog [30] ds).all (· ≤ reachBytes) = true := by
    have hV : gs = [] := by obtain ⟨_, _, _, hV, _⟩ := hW; exact (trodVars_none hV).1
    subst hV
    have e : Try.f10.params.toList ++ (OpenSpec.ofChange Rows.fracExactSpec).bare.plain.varTypes Try.prog = [30] := by rw [Try.params10]; rfl
    have h0 : (DataW.weightsEach Try.prog (Try.f10.params.toList ++ (OpenSpec.ofChange Rows.fracExactSpec).bare.plain.varTypes Try.prog) (ds ++ [])).all (· ≤ reachBytes) = true := hz
    rw [e, List.append_nil] at h0
    exact h0
  exact contract H enc W base args ds gs before hval hW hz'

theorem said : Rows.FracExactSaid :=
  OpenClaim.holds_of_cond 10 Try.f10 rfl rfl rfl rfl rfl rfl rfl ⟨rfl, rfl, rfl, rfl, rfl⟩ rfl rfl rfl rfl rfl (by kernel_rfl) Try.func10 (by kernel_rfl)
    (of_decide_eq_true (by kernel_rfl)) (by unfold Func.isWrapper; first | (rw [if_pos (by decide +kernel)]; kernel_rfl) | (rw [if_neg (by decide +kernel)]; exact ⟨rfl, rfl⟩))
    (fun os started H enc _ F => by rw [OpenClaim.pre_eq_preRow]; exact lifted os started H enc F)
end Go.Proofs.Ytfielhbepnkekaa.fracExact
