
/- Ym: the reference on zones: checks, writing of a zone, room. -/
import Derived.Test.YtallmebpmoaopaaGreatDoorY2
import Derived.Test.YtallmebpmoaopaaGreatDoorWo
import Derived.Test.YtallmebpmoaopaaGreatDoorLi
namespace Go.Proofs.YtallmebpmoaopaaGreatDoor.E
open Go.RowKit Go.Proofs
set_option maxRecDepth 100000
set_option maxHeartbeats 1000000
set_option linter.unusedSimpArgs false

theorem all_bad (xs : List Int) : xs.all (within 0 999) = !xs.any S.bad := by
  induction xs with
  | nil => rfl
  | cons x xs ih =>
    rw [List.all_cons, List.any_cons, ih, Bool.not_or]
    congr 1
    simp [S.bad]
    cases h1 : decide (x < 0) <;> cases h2 : decide (999 < x) <;> simp at h1 h2 <;> simp <;> omega

theorem ends_agg {h : Heap} {n : Nat} {cells target : List AV} (ho : OutL h cells target) : Ends [] (.agg target) [] h n (.agg cells) := by
  obtain ⟨cells', ho, hs⟩ := ho
  refine ⟨⟨.agg cells', ?_, .one (.agg hs)⟩, rfl⟩
  show (cells.mapM (outLeaf h [])).map AV.agg = _
  rw [ho]; rfl

end Go.Proofs.YtallmebpmoaopaaGreatDoor.E

namespace Go.Proofs.YtallmebpmoaopaaGreatDoor.E
open Go.RowKit Go.Proofs
set_option maxRecDepth 100000
set_option maxHeartbeats 1000000
set_option linter.unusedSimpArgs false
set_option linter.unusedVariables false

theorem OutL.zonesF {h : Heap} {i n : Nat} {e : HE} {xs : List S.Zone} {cs ts : List AV} (hi : h i = some e) (he : e.s = 2 ∧ e.rows = xs.map (zoneC false)) (hn : n = xs.length) (g : OutL h cs ts) : OutL h (.own i 0 n :: cs) (.lst false 2 (xs.map (zoneC false)) :: ts) := by
  have hi' : h i = some ⟨e.ty, 2, xs.map (zoneC false)⟩ := by rw [hi, ← he.1, ← he.2]
  have ho := own_plain hi' (by simpa using hn) (fun r hr => by obtain ⟨z, _, rfl⟩ := List.mem_map.1 hr; rfl)
  have e1 : (xs.map (zoneC false)).map (fun r => r.map unfr) = xs.map (zoneC false) := by rw [List.map_map]; rfl
  rw [e1] at ho
  exact .cons ho (.lst (fun h => by cases h) (SubR.refl _)) g
theorem OutL.zonesS {h : Heap} {i n k : Nat} {e : HE} {xs : List S.Zone} {a : Int} {c : AV} {d : List Int} {cs ts : List AV} (hi : h i = some e) (he : e.s = 2 ∧ e.rows = (xs.map (zoneC false)).set k [Int' a, c]) (hc : c = .lst true 1 (I d) ∨ c = .lst false 1 (I d) ∨ (c = .nl ∧ d = [])) (hn : n = xs.length) (g : OutL h cs ts) :
    OutL h (.own i 0 n :: cs) (.lst false 2 ((xs.set k ⟨a, d⟩).map (zoneC false)) :: ts) := by
  have hi' : h i = some ⟨e.ty, 2, (xs.map (zoneC false)).set k [Int' a, c]⟩ := by rw [hi, ← he.1, ← he.2]
  have ho := own_plain hi' (n := n) (by simp [hn]) (fun r hr => by
    rcases List.mem_or_eq_of_mem_set hr with hr | rfl
    · obtain ⟨z, _, rfl⟩ := List.mem_map.1 hr; rfl
    · rcases hc with rfl | rfl | ⟨rfl, rfl⟩ <;> rfl)
  refine .cons ho (.lst (fun h => by cases h) ?_) g
  have e1 : ((xs.map (zoneC false)).set k [Int' a, c]).map (fun r => r.map unfr) = (xs.map (zoneC false)).set k ([Int' a, c].map unfr) := by
    rw [List.map_set, List.map_map]
    rfl
  rw [e1, List.map_set]
  refine SubR.set (SubR.refl _) ?_
  rcases hc with rfl | rfl | ⟨rfl, rfl⟩
  · exact .cons (.refl _) (.cons (.refl _) (.nil _))
  · exact .cons (.refl _) (.cons (.refl _) (.nil _))
  · exact .cons (.refl _) (.cons .nl (.nil _))

/-- the reference's room -/
def roomR (zs : List S.Zone) (n : Nat) : List S.Zone × Int := (if (S.room zs n).2 = 0 then (S.room zs n).1 else [], (S.room zs n).2)

end Go.Proofs.YtallmebpmoaopaaGreatDoor.E
