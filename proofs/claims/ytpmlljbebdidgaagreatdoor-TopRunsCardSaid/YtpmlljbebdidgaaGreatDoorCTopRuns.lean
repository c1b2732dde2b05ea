/-
 TopRuns answers true at every input, and the input reads as before; no condition beyond the row's own (its listed table, tied to the program's text by the card).
-/
import Derived.Test.YtpmlljbebdidgaaGreatDoorA0
import Derived.Test.YtpmlljbebdidgaaGreatDoorA47
import Derived.Test.YtpmlljbebdidgaaGreatDoorA48
set_option linter.unusedSimpArgs false
set_option maxRecDepth 100000
namespace Go.Proofs.YtpmlljbebdidgaaGreatDoor.topRuns
open Go.ChangeShapes Go.WideShapes Go.ChangeAt Go.RowKit

theorem contract(H:Type)(enc:TypeId×Value→H)(W:World)(base:Nat)(args:Array Value)(ds gs:List (DataW H))(before:List MemPlace)
  (hval:∀(j:Nat) t v, Tryz.f3.params[j]?=some t→args[j]?=some v→Value.okWide Tryz.prog W .any base t v)
  (hW:DataW.Whole enc Tryz.prog Tryz.f3.params.toList Rows.topRunsSpec.vars false W args.toList ds gs before)
  (hz:(DataW.weightsEach Tryz.prog [26, 27] ds).all (·≤reachBytes)=true)
  (hL:laidMetH Tryz.prog listed W):
  Calls Tryz.prog 3 args W fun e W'=>∃v,e= .returned v∧Rows.topRunsSpec.post enc Tryz.prog Tryz.f3 false true false false W args v W':=by
 have hT:=zj6 hL;have hW':=hW;obtain⟨p,q,hA0,hV,rfl,hfz,hnd⟩:=hW;have hA:DataW.TrodAll enc Tryz.prog W 0 (fun _=>true) true Tryz.f3.params.toList args.toList ds p:=hA0
 rw[Tryz.params3]at hA hval;obtain⟨v0,vs0,d0,ds0,p0,q0,hargs,rfl,rfl,h0,r0⟩:=trodAll_cons hA;obtain⟨v1,vs1,d1,ds1,p1,q1,rfl,rfl,rfl,h1,r1⟩:=trodAll_cons r0;obtain⟨rfl,rfl,rfl⟩:=trodAll_nil r1;obtain rfl:args=#[v0,v1]:=by cases args;simp_all
 obtain⟨rfl,rfl⟩:=trodVars_none hV;obtain⟨G0,rfl,R0⟩:=zkP (hval 0 26 v0 rfl rfl) h0 hz (j:=0) rfl rfl;obtain⟨A1,c1,xs1,rfl,R1⟩:=zk6 (hval 1 27 v1 rfl rfl) h1 hz (j:=1) rfl rfl;refine(zj3 G0 xs1 A1 (List.length xs1) c1 W R0 rfl R1 hT).mono fun e W' ⟨he,hb⟩=>?_
 subst he;exact⟨_,rfl,zn3 zo5 (by rw[Tryz.params3];kernel_rfl) rfl rfl Tryz.underlying4 hW' rfl rfl rfl hb⟩

theorem laid_met(os:Os):laidMet Tryz.prog listed ((laidWorld os).forCall (fun _ _=>0) ⟨#[],#[.agg #[.string ByteArray.empty, .slice none 0 0, .slice none 0 0, .slice none 0 0, .slice none 0 0], .slice none 0 0],[]⟩).memory:=
 laidMet_of_run' 8 (by kernel_rfl) (by kernel_rfl)
theorem reads(os:Os){H:Type}(enc:TypeId×Value→H):∃places,DataW.whole enc Tryz.prog ((laidWorld os).forCall (fun _ _=>0) ⟨#[],#[.agg #[.string ByteArray.empty, .slice none 0 0, .slice none 0 0, .slice none 0 0, .slice none 0 0], .slice none 0 0],[]⟩).memory Tryz.f3.params.toList Rows.topRunsSpec.vars false (#[.agg #[.string ByteArray.empty, .slice none 0 0, .slice none 0 0, .slice none 0 0, .slice none 0 0], .slice none 0 0]:Array Value).toList 8=some ([.agg [.lit (.string []), .nil, .nil, .nil, .nil], .nil],[],places):=
 ⟨[],by kernel_rfl⟩

theorem lifted(os:Os)(started:os.Started)(H:Type)(enc:TypeId×Value→H)(F:Stop.Interp):
  ReturnsInHanded {} Tryz.checked os 3 .any ((OpenSpec.ofChange Rows.topRunsSpec).preRow enc Tryz.prog Tryz.f3 Rows.topRunsRow.domain false Rows.topRunsRow.laid) (((OpenSpec.ofChange Rows.topRunsSpec).at F).post enc Tryz.prog Tryz.f3 false true false false):=by
 obtain⟨places,hx⟩:=reads os enc;refine returnsInHanded_of_row (C:= Tryz.checked) (s:=OpenSpec.ofChange Rows.topRunsSpec) own started (by kernel_rfl) Tryz.func3
  (witness_row_at (enc:=enc) (C:= Tryz.checked) false (laidWorld os) #[.agg #[.string ByteArray.empty, .slice none 0 0, .slice none 0 0, .slice none 0 0, .slice none 0 0], .slice none 0 0] rfl (by kernel_rfl) (by kernel_rfl) (by kernel_rfl)
   (OpenSpec.preRow_of_cond 8 hx (by kernel_rfl) (fun k hk=>by cases hk) (by kernel_rfl) (laid_met os))) ?_
 intro W base args ds gs before hval hW _ _ hz hL _ _;have hz':(DataW.weightsEach Tryz.prog [26, 27] ds).all (·≤reachBytes)=true:=by
  have hV:gs=[]:=by obtain⟨_,_,_,hV,_⟩:=hW;exact(trodVars_none hV).1
  subst hV;have e: Tryz.f3.params.toList++(OpenSpec.ofChange Rows.topRunsSpec).bare.plain.varTypes Tryz.prog=[26, 27]:=by rw[Tryz.params3];rfl
  have h0:(DataW.weightsEach Tryz.prog (Tryz.f3.params.toList++(OpenSpec.ofChange Rows.topRunsSpec).bare.plain.varTypes Tryz.prog) (ds++[])).all (·≤reachBytes)=true:=hz
  rw[e,zby]at h0;exact h0
 exact contract H enc W base args ds gs before hval hW hz' hL

theorem said:Rows.TopRunsSaid:=
 OpenClaim.holds_of_cond 3 Tryz.f3 rfl rfl rfl rfl rfl rfl rfl ⟨rfl,rfl,rfl,rfl,rfl⟩ rfl rfl rfl rfl rfl (by kernel_rfl) Tryz.func3 (by kernel_rfl)
  (of_decide_eq_true (by kernel_rfl)) (by unfold Func.isWrapper;first|(rw[if_pos (by decide+kernel)];kernel_rfl)|(rw[if_neg (by decide+kernel)];exact⟨rfl,rfl⟩))
  (fun os started H enc _ F=>by rw[OpenClaim.pre_eq_preRow];exact lifted os started H enc F)

theorem plain(f:FuncId)(fn:Func)(hf: Tryz.pinned.checked.prog.funcNamed Rows.topRunsRow.func=some f)(hfn: Tryz.pinned.checked.prog.funcs[f]?=some fn):
  false= Tryz.pinned.checked.prog.looks []∧∀(j:Nat) t,fn.params[j]?=some t→ Tryz.pinned.checked.prog.wantsStandIn t=false:=by
 obtain rfl:f= 3 :=zq ((show Tryz.prog.funcNamed Rows.topRunsRow.func=some 3 by kernel_rfl).symm.trans hf)|>.symm
 obtain rfl:fn= Tryz.f3 :=(zq (Tryz.func3.symm.trans hfn)).symm;refine⟨by kernel_rfl,fun j t ht=>?_⟩
 rw[Tryz.params3]at ht;have hm:t∈(#[26, 27]:Array TypeId):=Array.mem_of_getElem? ht;simp at hm;rcases hm with rfl|rfl
 ·exact(show Tryz.prog.wantsStandIn 26 =false by kernel_rfl)
 ·exact(show Tryz.prog.wantsStandIn 27 =false by kernel_rfl)

/-- the card -/
theorem card:Rows.TopRunsCardSaid:=
 Claim7.holds_tied_plain_at .later [] _ _ _ _ said (fun _ h=>by cases h) (by kernel_rfl) (fun _ h=>by cases h) topRuns_row_tie rfl ⟨rfl,rfl⟩ (by kernel_rfl) rfl plain (by kernel_rfl)
end Go.Proofs.YtpmlljbebdidgaaGreatDoor.topRuns
