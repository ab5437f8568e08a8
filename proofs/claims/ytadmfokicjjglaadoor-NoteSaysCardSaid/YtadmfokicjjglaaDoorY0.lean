/- Y0: Ya: zones by themselves. Wo: rows of one's own, handed out. -/
import Derived.Test.YtadmfokicjjglaaDoorHd
import Derived.Test.YtadmfokicjjglaaDoorSp
namespace Go.Proofs.YtadmfokicjjglaaDoor.E
open Go.RowKit Go.Proofs
set_option maxRecDepth 100000
set_option maxHeartbeats 1000000
set_option linter.unusedSimpArgs false
abbrev zoneC (fr : Bool) (z : S.Zone) : List AV := [.at (.int .i64 z.st), .lst fr 1 (I z.d)]
end Go.Proofs.YtadmfokicjjglaaDoor.E
namespace Go.Proofs.YtadmfokicjjglaaDoor.E
open Go.RowKit Go.Proofs
set_option maxRecDepth 100000
set_option maxHeartbeats 1000000
set_option linter.unusedSimpArgs false
set_option linter.unusedVariables false
def unfr : AV → AV
  | .lst _ s rows => .lst false s rows
  | a => a
theorem plain_rows {h : Heap} {rows : List (List AV)} (hp : ∀ r, r ∈ rows → r.all plainCell = true) : rows.mapM (fun (r : List AV) => r.mapM (leafP h [] 2)) = some (rows.map fun r => r.map unfr) :=
  mapM_mem fun r hr => mapM_mem fun c hc => by
    have := List.all_eq_true.1 (hp r hr) c hc
    cases c <;> simp [plainCell] at this <;> rfl
theorem own_plain {h : Heap} {i n : Nat} {ty : TypeId} {s : Nat} {rows : List (List AV)} (hi : h i = some ⟨ty, s, rows⟩) (hn : n = rows.length) (hp : ∀ r, r ∈ rows → r.all plainCell = true) :
    outLeaf h [] (.own i 0 n) = some (.lst (rows.all fun r => r.all freshCell) s (rows.map fun r => r.map unfr)) := by
  subst hn
  have e2 : leafP h [] 3 (.own i 0 rows.length) = some (.lst false s (rows.map fun r => r.map unfr)) := by
    show (match h i with | some e => if 0 + rows.length ≤ e.rows.length then (((e.rows.drop 0).take rows.length).mapM fun (r : List AV) => r.mapM (leafP h [] 2)).map (AV.lst false e.s ·) else none | none => none) = _
    rw [hi]
    simp only [List.drop_zero]
    rw [if_pos (by simp), List.take_of_length_le (by simp), plain_rows hp]
    rfl
  show (match h i, leafP h [] 3 (.own i 0 rows.length) with | some e, some (.lst _ s rows) => some (AV.lst (e.rows.all fun r => r.all freshCell) s rows) | _, _ => none) = _
  rw [hi, e2]
def OwnR (no : List Nat) (s : Nat) (h : Heap) (v : AV) (ty : TypeId) (z : Nat) (rows : List (List AV)) : Prop :=
  (v = .nl ∧ rows = []) ∨ ∃ i, v = .own i 0 rows.length ∧ i ∉ no ∧ i < s ∧ h i = some ⟨ty, z, rows⟩
theorem OwnR.out {no : List Nat} {s z : Nat} {h : Heap} {v : AV} {ty : TypeId} {α : Type} {f : α → List AV} {xs : List α} (g : OwnR no s h v ty z (xs.map f)) (hp : ∀ x, (f x).all plainCell = true) (hu : ∀ x, (f x).map unfr = f x) : ∃ v', outLeaf h [] v = some v' ∧ SubF v' (.lst false z (xs.map f)) := by
  rcases g with ⟨rfl, e⟩ | ⟨i, rfl, -, -, hi⟩
  · rw [e]; exact ⟨.nl, rfl, .nl⟩
  · have ho := own_plain hi rfl (fun r hr => by obtain ⟨x, _, rfl⟩ := List.mem_map.1 hr; exact hp x)
    have e1 : (xs.map f).map (fun r => r.map unfr) = xs.map f := by
      rw [List.map_map]
      exact List.map_congr_left fun x _ => hu x
    rw [e1] at ho
    exact ⟨_, ho, .lst (fun h => by cases h) (SubR.refl _)⟩
theorem OwnR.mono {no no' : List Nat} {s s' z : Nat} {h h' : Heap} {v : AV} {ty : TypeId} {rows : List (List AV)} (g : OwnR no s h v ty z rows) (hh : ∀ i, i < s → i ∉ no → h' i = h i) (hs : s ≤ s') (hn : ∀ x, x ∈ no' → x ∈ no ∨ s ≤ x) : OwnR no' s' h' v ty z rows := by
  rcases g with g | ⟨i, g1, g2, g3, g4⟩
  · exact .inl g
  · refine .inr ⟨i, g1, fun hx => ?_, by omega, by rw [hh i g3 g2]; exact g4⟩
    rcases hn i hx with q | q
    · exact g2 q
    · omega
end Go.Proofs.YtadmfokicjjglaaDoor.E
