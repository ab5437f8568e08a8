/- K1: Ka: halls: records checked, halls compared, checked, copied, new. Kb: halls copied; hall.Next. -/
import Derived.Test.YtadmfokicjjglaaDoorD4
import Derived.Test.YtadmfokicjjglaaDoorWa
namespace Go.Proofs.YtadmfokicjjglaaDoor.E
open Go.RowKit Go.Proofs
set_option maxRecDepth 100000
set_option maxHeartbeats 1000000
set_option linter.unusedSimpArgs false
set_option linter.unusedVariables false
abbrev lastC (fr : Bool) (x : S.Last) : List AV := [.at (.int .i64 x.seq), .at (.int .i64 x.a.e), .at (.int .i64 x.a.pos), .lst fr 1 (I x.a.d)]
end Go.Proofs.YtadmfokicjjglaaDoor.E
namespace Go.Proofs.YtadmfokicjjglaaDoor.E
open Go.RowKit Go.Proofs
set_option maxRecDepth 100000
set_option maxHeartbeats 1000000
set_option linter.unusedSimpArgs false
set_option linter.unusedVariables false
theorem OutL.lasts {h : Heap} {i n : Nat} {e : HE} {fr : Bool} {xs : List S.Last} {cs ts : List AV} (hi : h i = some e) (he : e.s = 4 ∧ e.rows = xs.map (lastC true)) (hn : n = xs.length) (g : OutL h cs ts) : OutL h (.own i 0 n :: cs) (.lst fr 4 (xs.map (lastC false)) :: ts) :=
  .cons (own_outR (ty := e.ty) (rows := xs.map (lastC true)) (by rw [hi, ← he.1, ← he.2]) (by simpa using hn) (mapM_map (f := lastC true) (g := fun (r : List AV) => r.mapM (leafP h [] 2)) (e := lastC false) (fun _ => rfl) xs) (by simp [freshCell])) (.lst (fun _ => rfl) (SubR.refl _)) g
end Go.Proofs.YtadmfokicjjglaaDoor.E
