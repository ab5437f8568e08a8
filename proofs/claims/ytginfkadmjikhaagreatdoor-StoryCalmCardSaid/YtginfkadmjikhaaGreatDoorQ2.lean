/- Q2: Xf: rows of records grown, joined; law.filed. -/
import Derived.Test.YtginfkadmjikhaaGreatDoorQ1
import Derived.Test.YtginfkadmjikhaaGreatDoorSq
namespace Go.Proofs.YtginfkadmjikhaaGreatDoor.E
open Go.RowKit Go.Proofs
set_option linter.unusedVariables false
set_option linter.unusedSimpArgs false
set_option maxRecDepth 100000
set_option maxHeartbeats 2000000
def RowsOf (v : AV) (xs : List S.Rec) : Prop := v = .lst false 7 (xs.map (recC false)) ∨ (v = .nl ∧ xs = [])
theorem RowsOf.sub {v : AV} {xs : List S.Rec} (h : RowsOf v xs) : SubC v (.lst false 7 (xs.map (recC false))) := by
  rcases h with rfl | ⟨rfl, rfl⟩
  · exact .refl _
  · exact .nl
theorem put_eq {d x : S.Disk} {r : S.Rec} {e : Int} (h : S.putDisk d r = (x, e)) : C Tryz.prog 177 [.agg (diskC false d), .agg (recC false r)] (.tup [.agg (diskC true x), Int' e]) [] := by
  have := disk_Put d r
  rw [h] at this
  exact this
theorem sync_eq {d x : S.Disk} {e : Int} (h : S.syncDisk d = (x, e)) : C Tryz.prog 178 [.agg (diskC false d)] (.tup [.agg (diskC true x), Int' e]) [] := by
  have := disk_Sync d
  rw [h] at this
  exact this
theorem recover_eq {d x : S.Disk} {l : List S.Rec} {e : Int} (h : S.recoverDisk d = (x, l, e)) : C Tryz.prog 68 [.agg (diskC false d)] (recovR (x, l, e)) [] := by
  have := disk_Recover d
  rw [h] at this
  exact this
end Go.Proofs.YtginfkadmjikhaaGreatDoor.E
