
/- Ow: a slice of one's own that grows. -/
import Derived.Test.YtadmfokicjjglaaGreatDoorGr
namespace Go.Proofs.YtadmfokicjjglaaGreatDoor.E
open Go.RowKit Go.Proofs
set_option linter.unusedSimpArgs false
set_option linter.unusedVariables false
def OwnIs (no : List Nat) (s : Nat) (h : Heap) (v : AV) (xs : List Int) : Prop :=
 (v = .nl /\ xs = []) \/ ∃ i ks, v = .own i 0 xs.length /\ i ∉ no /\ i < s /\ h i = some ⟨3, 1, I ks⟩ /\ ks.take xs.length = xs /\ xs.length <= ks.length
theorem OwnIs.out {no : List Nat} {s : Nat} {h : Heap} {v : AV} {xs : List Int} (g : OwnIs no s h v xs) : ∃ v', outLeaf h [] v = some v' /\ SubF v' (.lst true 1 (I xs)) := by
 rcases g with ⟨rfl, rfl⟩ | ⟨i, ks, rfl, -, -, hi, ht, hl⟩
 ·exact ⟨.nl, rfl, .nl⟩
 ·refine ⟨.lst true 1 (I xs), ?_, .lst (fun h => h) (SubR.refl _)⟩
  have e2 : leafP h [] 3 (.own i 0 xs.length) = some (.lst false 1 (I xs)) := by
   show (match h i with | some e => if 0 + xs.length <= e.rows.length then (((e.rows.drop 0).take xs.length).mapM fun (r : List AV) => r.mapM (leafP h [] 2)).map (AV.lst false e.s ·) else none | none => none) = _;rw [hi];simp only [List.drop_zero];rw [if_pos (by simp; omega), I_take, ht, I_shown];rfl
  show (match h i, leafP h [] 3 (.own i 0 xs.length) with | some e, some (.lst _ s rows) => some (AV.lst (e.rows.all fun r => r.all freshCell) s rows) | _, _ => none) = _;rw [hi, e2];simp only [I_fresh]
theorem OwnIs.mono {no no' : List Nat} {s s' : Nat} {h h' : Heap} {v : AV} {xs : List Int} (g : OwnIs no s h v xs) (hh : ∀ i, i < s -> i ∉ no -> h' i = h i) (hs : s <= s') (hn : ∀ x, x ∈ no' -> x ∈ no \/ s <= x) : OwnIs no' s' h' v xs := by
 rcases g with g | ⟨i, ks, g1, g2, g3, g4, g5, g6⟩
 ·exact .inl g
 ·refine .inr ⟨i, ks, g1, fun hx => ?_, by omega, by rw [hh i g3 g2]; exact g4, g5, g6⟩;rcases hn i hx with q | q
  ·exact g2 q
  ·omega
end Go.Proofs.YtadmfokicjjglaaGreatDoor.E
