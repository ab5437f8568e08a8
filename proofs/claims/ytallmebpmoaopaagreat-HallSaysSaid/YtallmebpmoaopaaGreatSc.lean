
/- Sc: strings.Contains of one byte (turned from the shelf's templates strings.Contains, strings.Index, stringslite.Index, stringslite.IndexByte), and as a contract of the engine. -/
import Derived.Test.YtallmebpmoaopaaGreatHf
import Derived.Lib.Strings
import Derived.Lib.Slices
import Derived.Lib.Walk
import Derived.Lib.Bytealg
namespace Go.Proofs.YtallmebpmoaopaaGreat.Sc
open Go.Proofs
set_option linter.unusedSimpArgs false
set_option linter.unusedVariables false

set_option maxHeartbeats 1000000 in
set_option maxRecDepth 100000 in
theorem indexByte_ok (s : ByteArray) (c : Int) (w : World) :
    Calls Tryz.prog 108 #[.string s, .int .u8 c] w fun e w' => e = .returned (.int .i64 (Lib.indexByte s.data.toList c.toNat.toUInt8)) ∧ w' = w := by
  go_enter Tryz.func108, Tryz.ntmps108
  go_wp2
  rw [run_callFunc_extern Tryz.func112 (by kernel_rfl) (by kernel_rfl) (by kernel_rfl) (e := Extern.BytealgIndexByte.indexByte) (by kernel_rfl), Lib.run_indexByteString]
  simp only [Result.andThen]
  rw [Oper.upon_value]
  go_wp2
  go_ret
  exact ⟨rfl, rfl⟩

set_option maxHeartbeats 2000000 in
set_option maxRecDepth 100000 in
theorem index_lite (s : ByteArray) (c : UInt8) (w : World) :
    Calls Tryz.prog 105 #[.string s, .string ⟨#[c]⟩] w fun e w' => e = .returned (.int .i64 (Lib.indexByte s.data.toList c)) ∧ w' = w := by
  go_enter Tryz.func105, Tryz.ntmps105
  go_wp2_with (go_at_call 108; refine (indexByte_ok _ _ _).mono ?_; rintro e w' ⟨rfl, rfl⟩)
  · have h : ([c] == s.toList) = true := by assumption
    go_ret
    refine ⟨?_, rfl⟩
    have e : s.data.toList = [c] := by rw [← Lib.toList_data]; exact (beq_iff_eq.1 h).symm
    rw [e]
    simp [Lib.indexByte]
  · go_ret
    exact ⟨rfl, rfl⟩

set_option maxHeartbeats 1000000 in
theorem index_one (s : ByteArray) (c : UInt8) (w : World) :
    Calls Tryz.prog 94 #[.string s, .string ⟨#[c]⟩] w fun e w' => e = .returned (.int .i64 (Lib.indexByte s.data.toList c)) ∧ w' = w := by
  go_enter Tryz.func94, Tryz.ntmps94
  go_wp2_with (go_at_call 105; refine (index_lite _ _ _).mono ?_; rintro e w' ⟨rfl, rfl⟩)
  go_ret
  exact ⟨rfl, rfl⟩

set_option maxHeartbeats 1000000 in
theorem contains_one (s : ByteArray) (c : UInt8) (w : World) :
    Calls Tryz.prog 75 #[.string s, .string ⟨#[c]⟩] w fun e w' => e = .returned (.bool (decide (0 ≤ Lib.indexByte s.data.toList c))) ∧ w' = w := by
  go_enter Tryz.func75, Tryz.ntmps75
  go_wp2_with (go_at_call 94; refine (index_one _ _ _).mono ?_; rintro e w' ⟨rfl, rfl⟩)
  go_ret
  exact ⟨rfl, rfl⟩

end Go.Proofs.YtallmebpmoaopaaGreat.Sc
namespace Go.Proofs.YtallmebpmoaopaaGreat.E
open Go.RowKit Go.Proofs
set_option linter.unusedSimpArgs false
set_option linter.unusedVariables false

theorem strings_Contains (s : ByteArray) (c : UInt8) : C Tryz.prog 75 [.at (.string s), .at (.string ⟨#[c]⟩)] (Bool' (decide (0 ≤ Lib.indexByte s.data.toList c))) [] := by
  refine ⟨fun _ _ => by kernel_rfl, rfl, rfl, fun F w vs hF hv => ?_⟩
  have H0 : HRel w.heap.size w noPlace F (heapOf []) 0 w := ⟨Below.refl _ _, Nat.le_refl _, hF, fun _ _ => rfl, (fun i e he => by simp [heapOf] at he), (fun i j e e' b c s c' s' h1 => by simp [heapOf] at h1)⟩
  obtain ⟨h1, h2⟩ := hv
  match vs, h1, h2 with
  | [u, v], _, h2 =>
    have e1 := V_at (h2 0 _ _ rfl rfl)
    have e2 := V_at (h2 1 _ _ rfl rfl)
    subst e1 e2
    refine (Sc.contains_one s c w).mono ?_
    rintro e w' ⟨rfl, rfl⟩
    exact ⟨_, noPlace, F, rfl, H0, .at rfl, fun b hb => .inl hb⟩

end Go.Proofs.YtallmebpmoaopaaGreat.E
