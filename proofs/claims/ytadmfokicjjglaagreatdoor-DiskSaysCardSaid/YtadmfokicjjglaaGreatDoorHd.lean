
/- Hd: hands: copies. -/
import Derived.Test.YtadmfokicjjglaaGreatDoorH1
namespace Go.Proofs.YtadmfokicjjglaaGreatDoor.E
open Go.RowKit Go.Proofs
set_option maxRecDepth 100000
set_option maxHeartbeats 1000000
set_option linter.unusedSimpArgs false
def mix {α β : Type} (f g : α → β) (xs : List α) (k : Nat) : List β := (xs.take k).map f ++ (xs.drop k).map g
@[simp] theorem mix_len {α β : Type} (f g : α → β) (xs : List α) (k : Nat) : (mix f g xs k).length = xs.length := by simp [mix]; omega
@[simp] theorem mix_zero {α β : Type} (f g : α → β) (xs : List α) : mix f g xs 0 = xs.map g := by simp [mix]
@[simp] theorem mix_all {α β : Type} (f g : α → β) (xs : List α) : mix f g xs xs.length = xs.map f := by simp [mix]
theorem plain_map {α : Type} {f : α → List AV} (h : ∀ x, (f x).all plainCell = true) (xs : List α) {el : TypeId} {s : Nat} : plainNews [⟨el, s, xs.map f⟩] = true := by
  simp only [plainNews, List.all_cons, List.all_nil, Bool.and_true, List.all_map, List.all_eq_true, Function.comp]
  exact fun x _ => List.all_eq_true.1 (h x)
def OutL (h : Heap) (cells target : List AV) : Prop := ∃ cells', cells.mapM (outLeaf h []) = some cells' ∧ SubL SubF cells' target
theorem OutL.nil (h : Heap) : OutL h [] [] := ⟨[], rfl, .nil _⟩
theorem outL {h : Heap} {cells target : List AV} (g : OutL h cells target := by repeat (first | exact OutL.nil _ | refine OutL.at ?_ | refine OutL.nl ?_ | refine OutL.lst (by first | exact fun h => h | exact fun _ => rfl | exact fun h => by cases h) ?_ | refine OutL.ints rfl ⟨rfl, rfl⟩ rfl ?_ | refine OutL.ints rfl ⟨rfl, by simp⟩ (by simp) ?_ | refine OutL.answers rfl ⟨rfl, rfl⟩ rfl ?_ | refine OutL.answers rfl ⟨rfl, by simp⟩ (by simp) ?_ | refine OutL.zones rfl ⟨rfl, rfl⟩ rfl ?_ | refine OutL.zones rfl ⟨rfl, by simp⟩ (by simp) ?_ | refine OutL.lasts rfl ⟨rfl, rfl⟩ rfl ?_ | refine OutL.lasts rfl ⟨rfl, by simp⟩ (by simp) ?_ | refine OutL.hands rfl ⟨rfl, rfl⟩ rfl ?_ | refine OutL.hands rfl ⟨rfl, by simp⟩ (by simp) ?_ | refine OutL.mails rfl ⟨rfl, rfl⟩ rfl ?_ | refine OutL.mails rfl ⟨rfl, by simp⟩ (by simp) ?_ | refine OutL.recs rfl ⟨rfl, rfl⟩ rfl ?_ | refine OutL.recs rfl ⟨rfl, by simp⟩ (by simp) ?_ | refine OutL.bytes rfl ⟨rfl, rfl⟩ rfl ?_ | refine OutL.bytes rfl ⟨rfl, by simp⟩ (by simp) ?_ )) : OutL h cells target := g
theorem OutL.cons {h : Heap} {c c' t : AV} {cs ts : List AV} (ho : outLeaf h [] c = some c') (hs : SubF c' t) (g : OutL h cs ts) : OutL h (c :: cs) (t :: ts) := by
  obtain ⟨l, g1, g2⟩ := g
  exact ⟨c' :: l, by rw [List.mapM_cons, ho, g1]; rfl, .cons hs g2⟩
theorem OutL.at {h : Heap} {v : Value} {cs ts : List AV} (g : OutL h cs ts) : OutL h (.at v :: cs) (.at v :: ts) := .cons rfl (.refl _) g
theorem OutL.nl {h : Heap} {fr : Bool} {s : Nat} {cs ts : List AV} (g : OutL h cs ts) : OutL h (.nl :: cs) (.lst fr s [] :: ts) := .cons rfl .nl g
theorem OutL.lst {h : Heap} {fr fr' : Bool} {s : Nat} {rows : List (List AV)} {cs ts : List AV} (e : fr' = true → fr = true) (g : OutL h cs ts) : OutL h (.lst fr s rows :: cs) (.lst fr' s rows :: ts) := .cons rfl (.lst e (SubR.refl _)) g
theorem OutL.ints {h : Heap} {i n : Nat} {e : HE} {fr : Bool} {ks : List Int} {cs ts : List AV} (hi : h i = some e) (he : e.s = 1 ∧ e.rows = I ks) (hn : n = ks.length) (g : OutL h cs ts) : OutL h (.own i 0 n :: cs) (.lst fr 1 (I ks) :: ts) :=
  .cons (own_out (ty := e.ty) (by rw [hi, ← he.1, ← he.2]) hn) (.lst (fun _ => rfl) (SubR.refl _)) g
theorem ends_ag {h : Heap} {n : Nat} {cells target : List AV} {e e' : Int} (ho : OutL h cells target) (he : e = e') : Ends [] (.tup [.agg target, Int' e']) [] h n (.tup [.agg cells, Int' e]) := by
  subst he
  obtain ⟨cells', ho, hs⟩ := ho
  refine ⟨⟨.tup [.agg cells', Int' e], ?_, .tup (.cons (.agg hs) (.cons (.leaf (.refl _)) (.nil _)))⟩, rfl⟩
  have e1 : outAgg h [] (.agg cells) = some (.agg cells') := by
    show (cells.mapM (outLeaf h [])).map AV.agg = _
    rw [ho]; rfl
  show (List.mapM (outAgg h []) [.agg cells, Int' e]).map AV.tup = _
  rw [List.mapM_cons, e1]
  rfl
theorem own_outR {h : Heap} {i n : Nat} {ty : TypeId} {s : Nat} {rows rows' : List (List AV)} (hi : h i = some ⟨ty, s, rows⟩) (hn : n = rows.length) (hm : rows.mapM (fun (r : List AV) => r.mapM (leafP h [] 2)) = some rows') (hf : (rows.all fun r => r.all freshCell) = true) :
    outLeaf h [] (.own i 0 n) = some (.lst true s rows') := by
  subst hn
  have e2 : leafP h [] 3 (.own i 0 rows.length) = some (.lst false s rows') := by
    show (match h i with | some e => if 0 + rows.length ≤ e.rows.length then (((e.rows.drop 0).take rows.length).mapM fun (r : List AV) => r.mapM (leafP h [] 2)).map (AV.lst false e.s ·) else none | none => none) = _
    rw [hi]
    simp only [List.drop_zero]
    rw [if_pos (by simp), List.take_of_length_le (by simp), hm]
    rfl
  show (match h i, leafP h [] 3 (.own i 0 rows.length) with | some e, some (.lst _ s rows) => some (AV.lst (e.rows.all fun r => r.all freshCell) s rows) | _, _ => none) = _
  rw [hi, e2]
  simp only [hf]
theorem own_answers {h : Heap} {i n : Nat} {ty : TypeId} {xs : List S.Answer} (hi : h i = some ⟨ty, 3, xs.map (ansC true)⟩) (hn : n = xs.length) : outLeaf h [] (.own i 0 n) = some (.lst true 3 (xs.map (ansC false))) :=
  own_outR hi (by simpa using hn) (mapM_map (f := ansC true) (g := fun (r : List AV) => r.mapM (leafP h [] 2)) (e := ansC false) (fun _ => rfl) xs) (by simp [freshCell])
theorem OutL.answers {h : Heap} {i n : Nat} {e : HE} {fr : Bool} {xs : List S.Answer} {cs ts : List AV} (hi : h i = some e) (he : e.s = 3 ∧ e.rows = xs.map (ansC true)) (hn : n = xs.length) (g : OutL h cs ts) : OutL h (.own i 0 n :: cs) (.lst fr 3 (xs.map (ansC false)) :: ts) :=
  .cons (own_answers (ty := e.ty) (by rw [hi, ← he.1, ← he.2]) hn) (.lst (fun _ => rfl) (SubR.refl _)) g
@[simp] theorem take_map_len {α β : Type} (f : α → β) (xs : List α) : (xs.map f).take xs.length = xs.map f := List.take_of_length_le (by simp)
end Go.Proofs.YtadmfokicjjglaaGreatDoor.E
