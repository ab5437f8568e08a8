
/- Wa: records: checked, compared. -/
import Derived.Test.YtadmfokicjjglaaGreatDoorHd
import Derived.Test.YtadmfokicjjglaaGreatDoorSp
import Derived.Test.YtadmfokicjjglaaGreatDoorX3
namespace Go.Proofs.YtadmfokicjjglaaGreatDoor.E
open Go.RowKit Go.Proofs
set_option maxRecDepth 100000
set_option maxHeartbeats 1000000
set_option linter.unusedSimpArgs false
set_option linter.unusedVariables false
abbrev recC (fr : Bool) (r : S.Rec) : List AV := [.at (.int .i64 r.who), .at (.int .i64 r.seq), .at (.int .i64 r.c.kind), .at (.int .i64 r.c.z), .at (.int .i64 r.c.n), .at (.int .i64 r.c.pos), .lst fr 1 (I r.c.d)]
theorem note_Check (r : S.Rec) : C Tryz.prog 89 [.agg (recC false r)] (Int' (S.checkRec r)) [] := by
 obtain ⟨w, s, c⟩ := r;obtain ⟨e, he⟩ : ∃ e, S.checkRec ⟨w, s, c⟩ = e := ⟨_, rfl⟩;rw [he];unfold S.checkRec at he;simp only at he;replace he := hid he;have cs : decide (w < 0) = true \/ (decide (w < 0) = false /\ (decide (3 <= w) = true \/ (decide (3 <= w) = false /\ (decide (s < 1) = true \/ (decide (s < 1) = false /\ (decide (40 < s) = true \/ decide (40 < s) = false)))))) := by simp; omega
 rcases cs with c1 | ⟨c1, c2 | ⟨c2, c3 | ⟨c3, c4 | c4⟩⟩⟩
 ·refine CI Tryz.func89 ?_;refine rS c1 ?_;exact ends_int (by simp at c1; rw [<- he.out, if_pos (by omega)])
 ·refine CI Tryz.func89 ?_;refine rS (aN c1 c2) ?_;exact ends_int (by simp at c1 c2; rw [<- he.out, if_pos (by omega)])
 ·refine CI Tryz.func89 ?_;refine rS (aN c1 (aN c2 c3)) ?_;exact ends_int (by simp at c1 c2 c3; rw [<- he.out, if_pos (by omega)])
 ·refine CI Tryz.func89 ?_;refine rS (aN c1 (aN c2 (aN c3 c4))) ?_;exact ends_int (by simp at c1 c2 c3 c4; rw [<- he.out, if_pos (by omega)])
 ·refine CI Tryz.func89 ?_;refine rD (aN c1 (aN c2 (aN c3 c4))) (cmd_Check c) ?_;refine rN ?_;exact ends_int (by simp at c1 c2 c3 c4; rw [<- he.out, if_neg (by omega)])
end Go.Proofs.YtadmfokicjjglaaGreatDoor.E
