/- Y1: Yb: zones: written, read; zones of which few may be open. Yc: zones of which few may be open: counted, checked, copied. Yd: zones of which few may be open: closed, finished, reset. Ye: room for a zone; zones that are held open, written. Yf: zones that are held open, written. Yg: plain laws of zones of which few may be open. Yh: law.crowded, law.YardWrites. -/
import Derived.Test.YtadmfokicjjglaaGreatDoorY0
namespace Go.Proofs.YtadmfokicjjglaaGreatDoor.E
open Go.RowKit Go.Proofs
set_option maxRecDepth 100000
set_option maxHeartbeats 1000000
set_option linter.unusedSimpArgs false
end Go.Proofs.YtadmfokicjjglaaGreatDoor.E
namespace Go.Proofs.YtadmfokicjjglaaGreatDoor.E
open Go.RowKit Go.Proofs
set_option maxRecDepth 100000
set_option maxHeartbeats 1000000
set_option linter.unusedSimpArgs false
end Go.Proofs.YtadmfokicjjglaaGreatDoor.E
namespace Go.Proofs.YtadmfokicjjglaaGreatDoor.E
open Go.RowKit Go.Proofs
set_option maxRecDepth 100000
set_option maxHeartbeats 1000000
set_option linter.unusedSimpArgs false
theorem set_map {α β : Type} {f : α → β} {xs : List α} {n : Nat} {y : α} {b : β} (h : b = f y) : (xs.map f).set n b = (xs.set n y).map f := by subst h; simp
@[simp] theorem set_zone (fr : Bool) (zs : List S.Zone) (n : Nat) (a : Int) (d : List Int) : (zs.map (zoneC fr)).set n [.at (.int .i64 a), .lst fr 1 (I d)] = (zs.set n ⟨a, d⟩).map (zoneC fr) := (set_map rfl)
theorem own_zones {h : Heap} {i n : Nat} {e : HE} {xs : List S.Zone} (hi : h i = some e) (he : e.s = 2 ∧ e.rows = xs.map (zoneC true)) (hn : n = xs.length) : outLeaf h [] (.own i 0 n) = some (.lst true 2 (xs.map (zoneC false))) := by
  have hi' : h i = some ⟨e.ty, 2, xs.map (zoneC true)⟩ := by rw [hi, ← he.1, ← he.2]
  exact own_outR hi' (by simpa using hn) (mapM_map (f := zoneC true) (g := fun (r : List AV) => r.mapM (leafP h [] 2)) (e := zoneC false) (fun _ => rfl) xs) (by simp [freshCell])
theorem OutL.zones {h : Heap} {i n : Nat} {e : HE} {fr : Bool} {xs : List S.Zone} {cs ts : List AV} (hi : h i = some e) (he : e.s = 2 ∧ e.rows = xs.map (zoneC true)) (hn : n = xs.length) (g : OutL h cs ts) : OutL h (.own i 0 n :: cs) (.lst fr 2 (xs.map (zoneC false)) :: ts) :=
  .cons (own_zones hi he hn) (.lst (fun _ => rfl) (SubR.refl _)) g
theorem SubR.set {a b : List (List AV)} (h : SubR a b) {n : Nat} {x y : List AV} (g : SubL SubC x y) : SubR (a.set n x) (b.set n y) := by
  refine ⟨by simp [h.1], fun k r r' h1 h2 => ?_⟩
  rw [List.getElem?_set] at h1 h2
  split at h1
  · rename_i e; subst e
    split at h1
    · rw [if_pos rfl, if_pos (by rw [← h.1]; assumption)] at h2
      cases h1; cases h2; exact g
    · cases h1
  · rename_i e
    rw [if_neg e] at h2
    exact h.2 k r r' h1 h2
end Go.Proofs.YtadmfokicjjglaaGreatDoor.E
namespace Go.Proofs.YtadmfokicjjglaaGreatDoor.E
open Go.RowKit Go.Proofs
set_option maxRecDepth 100000
set_option maxHeartbeats 1000000
set_option linter.unusedSimpArgs false
end Go.Proofs.YtadmfokicjjglaaGreatDoor.E
namespace Go.Proofs.YtadmfokicjjglaaGreatDoor.E
open Go.RowKit Go.Proofs
set_option maxRecDepth 100000
set_option maxHeartbeats 1000000
set_option linter.unusedSimpArgs false
end Go.Proofs.YtadmfokicjjglaaGreatDoor.E
namespace Go.Proofs.YtadmfokicjjglaaGreatDoor.E
open Go.RowKit Go.Proofs
set_option linter.unusedSimpArgs false
set_option linter.unusedVariables false
end Go.Proofs.YtadmfokicjjglaaGreatDoor.E
namespace Go.Proofs.YtadmfokicjjglaaGreatDoor.E
open Go.RowKit Go.Proofs
set_option maxRecDepth 100000
set_option maxHeartbeats 1000000
set_option linter.unusedSimpArgs false
end Go.Proofs.YtadmfokicjjglaaGreatDoor.E
