
/-
  law.WorldRuns: its row, out of the contract that the engine proves of it.
-/
import Derived.Test.YtadmfokicjjglaaGreatDoorCards
import Derived.Test.YtadmfokicjjglaaGreatDoorKWorldRuns
import Derived.Test.YtadmfokicjjglaaGreatDoorTie
import Derived.Test.YtadmfokicjjglaaGreatDoorRd3
import Derived.Test.YtadmfokicjjglaaGreatDoorQx
import Derived.Test.YtadmfokicjjglaaGreatDoorB1
import Derived.Test.YtadmfokicjjglaaGreatDoorGl
import Derived.Deep.DeepHandedRow
import Derived.SevenTiedAt
import Derived.ChangeMaps5
namespace Go.Proofs.YtadmfokicjjglaaGreatDoor.WorldRunsProof
open Go.Proofs Go.ChangeShapes Go.WideShapes Go.ChangeAt Go.RowKit Go.Joins
set_option linter.unusedVariables false
theorem own : ownKnob Tryz.prog.godebug = none := by kernel_rfl
theorem laid : laidOutB Tryz.prog = true := by kernel_rfl
theorem readable : ∀ t ∈ Tryz.f5.params.toList, Tryz.prog.readableRec t = true ∧ t < Tryz.prog.types.size := by
  have h : (Tryz.f5.params.toList.all fun t => Tryz.prog.readableRec t && decide (t < Tryz.prog.types.size)) = true := by kernel_rfl
  intro t ht
  simpa using List.all_eq_true.1 h t ht
set_option maxHeartbeats 4000000 in
set_option maxRecDepth 100000 in
theorem contract (H : Type) (enc : TypeId × Value → H) (W : World) (base : Nat) (args : Array Value) (ds gs : List (DataW H)) (before : List MemPlace)
    (hval0 : ∀ (j : Nat) t v, Tryz.f5.params[j]? = some t → args[j]? = some v → Value.okWide Tryz.prog W .any base t v)
    (hW : DataW.Whole enc Tryz.prog Tryz.f5.params.toList Rows.worldRunsSpec.vars false W args.toList ds gs before) (hG : E.Glob W.heap.size W) :
    Calls Tryz.prog 5 args W fun e W' => ∃ v, e = .returned v ∧ Rows.worldRunsSpec.post enc Tryz.prog Tryz.f5 false true false false W args v W' := by
  have hval : ∀ (j : Nat) t v, Tryz.f5.params[j]? = some t → args[j]? = some v → Value.okWide Tryz.prog W .any base t v := hval0
  have hW' := hW
  obtain ⟨p, q, hA0, hV, rfl, hfz, hnd⟩ := hW
  have hA : DataW.TrodAll enc Tryz.prog W 0 (fun _ => true) true Tryz.f5.params.toList args.toList ds p := hA0
  rw [Tryz.params5] at hA hval
  obtain ⟨v0, vs0, d0, ds0, p0, q0, hargs, rfl, rfl, h0, r0⟩ := trodAll_cons hA
  obtain ⟨v1, vs1, d1, ds1, p1, q1, rfl, rfl, rfl, h1, r1⟩ := trodAll_cons r0
  obtain ⟨rfl, rfl, rfl⟩ := trodAll_nil r1
  obtain rfl : args = #[v0, v1] := by cases args; simp_all
  obtain ⟨rfl, rfl⟩ := trodVars_none hV
  obtain ⟨a0, hx0⟩ := E.rd_world (hval 0 37 v0 rfl rfl) h0
  obtain ⟨a1, hx1⟩ := E.rd_haps (hval 1 66 v1 rfl rfl) h1
  clear hA0 hval0
  simp only [List.append_nil] at hW'
  refine (E.C.law (E.law_WorldRuns a0 a1) hG (E.VL.cons hx0 (E.VL.cons hx1 E.VL.nil))).mono fun e W' ⟨he, hb⟩ => ?_
  subst he
  exact ⟨_, rfl, law_post hW' rfl rfl (by kernel_rfl) Tryz.underlying4 laid readable hb⟩
set_option maxRecDepth 100000 in
theorem there (os : Os) {H : Type} (enc : TypeId × Value → H) : ∃ (w : World) (tape : Tape) (i : Input), w.os = os ∧ (w.forCall tape i).Shaped Tryz.prog ∧ i.vars = [] ∧ Input.okWide Tryz.prog (w.forCall tape i) .any w.heap.size 5 i ∧
    (OpenSpec.ofChange Rows.worldRunsSpec).preRow enc Tryz.prog Tryz.f5 Rows.worldRunsRow.domain false Rows.worldRunsRow.laid (w.forCall tape i).memory i.args ∧ ({} : Assume).holds Tryz.prog (lone (Frame.enter Tryz.prog 5 i.args .normal) [] (w.forCall tape i)) :=
  ⟨World.laidAll Tryz.prog os E.listed, fun _ _ => 0, ⟨#[], #[.agg #[.slice none 0 0, .slice none 0 0, .int .i64 0, .int .i64 0, .slice none 0 0, .slice none 0 0, .slice none 0 0, .bool false, .slice none 0 0, .slice none 0 0], .slice none 0 0], []⟩, World.laidAll_os _ _ _, E.laid_shaped os _, rfl, (Input.okWide_of_okWideB (by as_aux_lemma => kernel_rfl)).2,
    OpenSpec.preRow_of_B rfl 8 (by as_aux_lemma => kernel_rfl) (by as_aux_lemma => kernel_rfl) (E.laid_met os _), by simp [Assume.holds]⟩
set_option maxRecDepth 100000 in
theorem lifted (os : Os) (started : os.Started) (H : Type) (enc : TypeId × Value → H) (F : Stop.Interp) :
    ReturnsInHanded {} Tryz.checked os 5 .any ((OpenSpec.ofChange Rows.worldRunsSpec).preRow enc Tryz.prog Tryz.f5 Rows.worldRunsRow.domain false Rows.worldRunsRow.laid) (((OpenSpec.ofChange Rows.worldRunsSpec).at F).post enc Tryz.prog Tryz.f5 false true false false) := by
  refine returnsInHanded_of_row (C := Tryz.checked) (s := OpenSpec.ofChange Rows.worldRunsSpec) own started (by kernel_rfl) Tryz.func5 (there os enc) ?_
  intro W base args ds gs before hval hW _ _ _ hL hsh _
  exact contract H enc W base args ds gs before hval hW (E.glob_of hL hsh)
set_option maxHeartbeats 4000000 in
set_option maxRecDepth 100000 in
theorem said : Rows.WorldRunsSaid :=
  OpenClaim.holds_of_cond 5 Tryz.f5 rfl rfl rfl rfl rfl rfl rfl ⟨rfl, rfl, rfl, rfl, rfl⟩ rfl rfl rfl rfl rfl (by as_aux_lemma => kernel_rfl) Tryz.func5 closed
    (of_decide_eq_true (by as_aux_lemma => kernel_rfl)) (by as_aux_lemma => unfold Func.isWrapper; first | (rw [if_pos (by decide +kernel)]; kernel_rfl) | (rw [if_neg (by decide +kernel)]; exact ⟨rfl, rfl⟩))
    (fun os started H enc _ F => by rw [OpenClaim.pre_eq_preRow]; exact lifted os started H enc F)
theorem plain (f : FuncId) (fn : Func) (hf : Tryz.pinned.checked.prog.funcNamed Rows.worldRunsRow.func = some f) (hfn : Tryz.pinned.checked.prog.funcs[f]? = some fn) :
    true = Tryz.pinned.checked.prog.looks [] ∧ ∀ (j : Nat) t, fn.params[j]? = some t → Tryz.pinned.checked.prog.wantsStandIn t = false := by
  obtain rfl : f = 5 := Option.some.inj ((show Tryz.prog.funcNamed Rows.worldRunsRow.func = some 5 by kernel_rfl).symm.trans hf) |>.symm
  obtain rfl : fn = Tryz.f5 := (Option.some.inj (Tryz.func5.symm.trans hfn)).symm
  refine ⟨by kernel_rfl, fun j t ht => ?_⟩
  have hall : (Tryz.f5.params.toList.all fun u => !Tryz.prog.wantsStandIn u) = true := by kernel_rfl
  have hm : t ∈ Tryz.f5.params.toList := by simpa using Array.mem_of_getElem? ht
  exact (show Tryz.prog.wantsStandIn t = false by simpa using List.all_eq_true.1 hall t hm)
end Go.Proofs.YtadmfokicjjglaaGreatDoor.WorldRunsProof
namespace Go.Proofs.YtadmfokicjjglaaGreatDoor
open Go.Proofs Go.ChangeShapes Go.WideShapes Go.ChangeAt Go.RowKit Go.Joins
set_option maxRecDepth 100000 in
theorem worldRuns_holds : Rows.WorldRunsCardSaid :=
  Claim7.holds_tied_plain_at .later [] _ _ _ _ WorldRunsProof.said (fun _ h => by cases h) (by kernel_rfl) (fun _ h => by cases h) worldRuns_row_tie rfl ⟨rfl, rfl⟩ (by kernel_rfl) rfl WorldRunsProof.plain (by kernel_rfl)
end Go.Proofs.YtadmfokicjjglaaGreatDoor
