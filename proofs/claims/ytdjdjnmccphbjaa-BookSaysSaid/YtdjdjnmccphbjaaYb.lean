/- Yb: zones: written, read; zones of which few may be open. -/
import Derived.Test.YtdjdjnmccphbjaaYa
namespace Go.Proofs.Ytdjdjnmccphbjaa.E
open Go.RowKit Go.Proofs
set_option maxRecDepth 100000
set_option maxHeartbeats 1000000
set_option linter.unusedSimpArgs false

theorem len2 {α : Type} {l : List α} (h : l.length = 2) : ∃ a b, l = [a, b] := by
  match l, h with
  | [a, b], _ => exact ⟨a, b, rfl⟩

/-- rows that are likened one by one -/
theorem equalFunc_zones {α : Type} {enc : α → List AV} {eq : α → α → Bool} {f : FuncId} (he : ∀ x, (enc x).length = 2) (xs ys : List α) (hf : ∀ x y, x ∈ xs → y ∈ ys → C Try.prog f [.agg (enc x), .agg (enc y)] (Bool' (eq x y)) []) (hp : ∀ (x : α) (h : Heap), viewV h (.agg (enc x)) = some (.agg (enc x)) ∧ plainV (.agg (enc x)) = true) :
    C Try.prog 115 [.lst false 2 (xs.map enc), .lst false 2 (ys.map enc), .fn f []] (Bool' (eqAll eq xs ys)) [] := by
  refine C_real (fun _ _ => by kernel_rfl) rfl rfl fun hr => ?_
  have hx := (hr.get (j := 0) rfl).len
  rw [List.length_map] at hx
  unfold maxLen at hx
  refine C_inline [] Try.func115 (fun _ _ => by kernel_rfl) rfl (by kernel_rfl) (by rfl) (by decide) (by rfl) (by rfl) (by rfl) ?_
  simp -dsimp -implicitDefEqProofs [-getElem?_pos, -List.map_append, -List.map_set, List.getElem?_cons_zero, List.getElem?_cons_succ]
  refine brA_split (fun h1 => ?_) (fun h1 => ?_)
  rotate_left
  · simp -dsimp -implicitDefEqProofs [-getElem?_pos, -List.map_append, -List.map_set, List.getElem?_cons_zero, List.getElem?_cons_succ]
    refine ends_bool (Eq.symm (Bool.eq_false_iff.2 fun h => ?_))
    have := eqAll_len h
    simp at h1
    omega
  have hl : xs.length = ys.length := by simp at h1; omega
  simp -dsimp -implicitDefEqProofs [-getElem?_pos, -List.map_append, -List.map_set, List.getElem?_cons_zero, List.getElem?_cons_succ]
  refine loop_count 17 xs.length (fun k _ m _ => (∃ d, m = d + 20) ∧ Hid (∀ (j : Nat), j < k → ∀ (x y : α), xs[j]? = some x → ys[j]? = some y → eq x y = true)) _ rfl (by rfl) ⟨⟨_, rfl⟩, by intro j hj; omega⟩ ?_ ?_
  · rintro k t h m hk hci hs ⟨⟨d, rfl⟩, hb⟩
    have hw : IntKind.i64.wrap ((k : Int) + 1) = (k : Int) + 1 := wrap_ok (by omega)
    obtain ⟨x, hx⟩ : ∃ x, xs[k]? = some x := ⟨xs[k], by simp⟩
    obtain ⟨y, hy⟩ : ∃ y, ys[k]? = some y := ⟨ys[k]'(by omega), by simp⟩
    have hk' : decide (k < xs.length) = true := by simp [hk]
    have e0 := hs 0 rfl
    have e1 := hs 1 rfl
    have e2 := hs 2 rfl
    have e15 := hs 15 rfl
    have e16 := hs 16 rfl
    clear hs
    simp -dsimp -implicitDefEqProofs at e0 e1 e2 e15 e16
    have hex := he x
    have hey := he y
    replace hk := hid hk
    replace hl := hid hl
    have hf' := hid (hf x y (List.mem_of_getElem? hx) (List.mem_of_getElem? hy))
    obtain ⟨a0, a1, ea⟩ := len2 hex
    obtain ⟨b0, b1, eb⟩ := len2 hey
    have px := fun h => (hp x h).1
    have py := fun h => (hp y h).1
    have qx := (hp x (fun _ => none)).2
    have qy := (hp y (fun _ => none)).2
    rw [ea] at hf' px qx
    rw [eb] at hf' py qy
    replace px := hid px
    replace py := hid py
    clear hf hp
    simp -dsimp -implicitDefEqProofs [-getElem?_pos, -List.map_append, -List.map_set, List.getElem?_cons_zero, List.getElem?_cons_succ, e0, e1, e2, e15, e16, hci, hk', hx, hy, ea, eb]
    refine call_C hf'.out (by rw [List.mapM_cons, px.out, List.mapM_cons, py.out]; rfl) (Or.inr (by rw [List.all_cons, qx, List.all_cons, qy]; rfl)) (Nat.le_of_ble_eq_true rfl) ?_
    simp -dsimp -implicitDefEqProofs [-getElem?_pos, -List.map_append, -List.map_set, List.getElem?_cons_zero, List.getElem?_cons_succ]
    cases hxy : eq x y
    · simp -dsimp -implicitDefEqProofs [-getElem?_pos, -List.map_append, -List.map_set, List.getElem?_cons_zero, List.getElem?_cons_succ]
      refine ends_bool (Eq.symm (Bool.eq_false_iff.2 fun h => ?_))
      have := (eqAll_get.1 h).2 k x y hx hy
      rw [hxy] at this
      cases this
    · simp -dsimp -implicitDefEqProofs [-getElem?_pos, -List.map_append, -List.map_set, List.getElem?_cons_zero, List.getElem?_cons_succ, hw, hci, e0, e1, e2, e15, e16]
      intro j hj x' y' hx' hy'
      rcases Nat.lt_or_ge j k with g | g
      · exact hb.out j g x' y' hx' hy'
      · have : j = k := by omega
        subst this
        rw [hx] at hx'
        rw [hy] at hy'
        cases hx'; cases hy'
        exact hxy
  · rintro t h m hci hs ⟨⟨d, rfl⟩, hb⟩
    have e0 := hs 0 rfl
    have e1 := hs 1 rfl
    have e2 := hs 2 rfl
    have e15 := hs 15 rfl
    have e16 := hs 16 rfl
    clear hs
    simp -dsimp -implicitDefEqProofs at e0 e1 e2 e15 e16
    simp -dsimp -implicitDefEqProofs [-getElem?_pos, -List.map_append, -List.map_set, List.getElem?_cons_zero, List.getElem?_cons_succ, e0, e1, e2, e15, e16, hci]
    exact ends_bool (Eq.symm (eqAll_get.2 ⟨hl, fun j x y hx hy => hb.out j (List.getElem?_eq_some_iff.1 hx).1 x y hx hy⟩))


theorem zone_Copy (z : S.Zone) (hl : z.d.length ≤ 100000000) : C Try.prog 141 [.agg (zoneC false z)] (.agg [Int' z.st, .own 0 0 z.d.length]) [⟨3, 1, I z.d⟩] := by
  refine C_inline [16] Try.func141 (fun _ _ => by kernel_rfl) rfl (by kernel_rfl) (by rfl) (by decide) (by rfl) (by rfl) (by first | rfl | exact plain_I _ | exact plain_map (fun _ => rfl) _) ?_
  simp -dsimp -implicitDefEqProofs [-getElem?_pos, -List.map_append, -List.map_set, List.getElem?_cons_zero, List.getElem?_cons_succ]
  refine call_C (clone_int z.d hl) (by first | rfl | (simp -dsimp -implicitDefEqProofs; done)) (by first | exact Or.inr (by rfl) | exact Or.inl ⟨by rfl, by first | rfl | simp [newNews, newLeaf, I]⟩) (Nat.le_of_ble_eq_true rfl) ?_
  simp -dsimp -implicitDefEqProofs [-getElem?_pos, -List.map_append, -List.map_set, List.getElem?_cons_zero, List.getElem?_cons_succ]
  exact ⟨⟨_, rfl, Sub.refl _⟩, rfl⟩
theorem zone_CopyN (z : S.Zone) (hl : z.d.length ≤ 100000000) : C Try.prog 141 [.agg (zoneC false z)] (.agg (zoneC true z)) [] := by
  refine C_inline [] Try.func141 (fun _ _ => by kernel_rfl) rfl (by kernel_rfl) (by rfl) (by decide) (by rfl) (by rfl) (by rfl) ?_
  simp -dsimp -implicitDefEqProofs [-getElem?_pos, -List.map_append, -List.map_set, List.getElem?_cons_zero, List.getElem?_cons_succ]
  refine call_C (clone_int z.d hl) (by first | rfl | (simp -dsimp -implicitDefEqProofs; done)) (by first | exact Or.inr (by rfl) | exact Or.inl ⟨by rfl, by first | rfl | simp [newNews, newLeaf, I]⟩) (Nat.le_of_ble_eq_true rfl) ?_
  simp -dsimp -implicitDefEqProofs [-getElem?_pos, -List.map_append, -List.map_set, List.getElem?_cons_zero, List.getElem?_cons_succ]
  exact ⟨⟨.agg (zoneC true z), by simp -dsimp -implicitDefEqProofs, Sub.refl _⟩, rfl⟩

theorem checkZone_len {z : S.Zone} (h : S.checkZone z = 0) : z.d.length ≤ 8 := by
  unfold S.checkZone at h
  split at h; · cases h
  split at h; · cases h
  omega

theorem zone_Write (z : S.Zone) (l : List Int) : C Try.prog 107 [.agg (zoneC false z), .lst false 1 (I l)] (.tup [.agg (zoneC true (S.writeZone z l).1), Int' (S.writeZone z l).2]) [] := by
  obtain ⟨st, xs⟩ := z
  obtain ⟨r, hr⟩ : ∃ r, S.writeZone ⟨st, xs⟩ l = r := ⟨_, rfl⟩
  rw [hr]
  unfold S.writeZone at hr
  have hlen := fun e => checkZone_len (z := ⟨st, xs⟩) e
  simp only at hr hlen
  replace hr := hid hr
  replace hlen := hid hlen
  refine C_inline [] Try.func107 (fun _ _ => by kernel_rfl) rfl (by kernel_rfl) (by rfl) (by decide) (by rfl) (by rfl) (by rfl) ?_
  simp -dsimp -implicitDefEqProofs [-getElem?_pos, -List.map_append, -List.map_set, List.getElem?_cons_zero, List.getElem?_cons_succ]
  refine call_C (zone_Check ⟨st, xs⟩) (by first | rfl | (simp -dsimp -implicitDefEqProofs; done)) (by first | exact Or.inr (by rfl) | exact Or.inl ⟨by rfl, by first | rfl | simp [newNews, newLeaf, I]⟩) (Nat.le_of_ble_eq_true rfl) ?_
  simp -dsimp -implicitDefEqProofs [-getElem?_pos, -List.map_append, -List.map_set, List.getElem?_cons_zero, List.getElem?_cons_succ]
  refine brA_split (fun h1 => ?_) (fun h1 => ?_)
  rotate_left
  · obtain rfl : r = (S.Zone.zero, S.checkZone ⟨st, xs⟩) := by rw [← hr.out]; simp at h1; simp [h1]
    simp -dsimp -implicitDefEqProofs [-getElem?_pos, -List.map_append, -List.map_set, List.getElem?_cons_zero, List.getElem?_cons_succ]
    exact ends_ag (by repeat (first | exact OutL.nil _ | refine OutL.at ?_ | refine OutL.nl ?_ | refine OutL.lst (by first | exact fun h => h | exact fun _ => rfl | exact fun h => by cases h) ?_ | refine OutL.ints rfl ⟨rfl, rfl⟩ rfl ?_ | refine OutL.ints rfl ⟨rfl, by simp⟩ (by simp) ?_ | refine OutL.answers rfl ⟨rfl, rfl⟩ rfl ?_ | refine OutL.answers rfl ⟨rfl, by simp⟩ (by simp) ?_ | refine OutL.zones rfl ⟨rfl, rfl⟩ rfl ?_ | refine OutL.zones rfl ⟨rfl, by simp⟩ (by simp) ?_ | refine OutL.lasts rfl ⟨rfl, rfl⟩ rfl ?_ | refine OutL.lasts rfl ⟨rfl, by simp⟩ (by simp) ?_ | refine OutL.hands rfl ⟨rfl, rfl⟩ rfl ?_ | refine OutL.hands rfl ⟨rfl, by simp⟩ (by simp) ?_ | refine OutL.mails rfl ⟨rfl, rfl⟩ rfl ?_ | refine OutL.mails rfl ⟨rfl, by simp⟩ (by simp) ?_ | refine OutL.recs rfl ⟨rfl, rfl⟩ rfl ?_ | refine OutL.recs rfl ⟨rfl, by simp⟩ (by simp) ?_ | refine OutL.bytes rfl ⟨rfl, rfl⟩ rfl ?_ | refine OutL.bytes rfl ⟨rfl, by simp⟩ (by simp) ?_ )) rfl
  simp at h1
  have hl := hlen.out h1
  have hr2 := hr.out
  rw [if_neg (by simp [h1])] at hr2
  replace hr2 := hid hr2
  clear hr hlen
  simp -dsimp -implicitDefEqProofs [-getElem?_pos, -List.map_append, -List.map_set, List.getElem?_cons_zero, List.getElem?_cons_succ]
  refine brA_split (fun h2 => ?_) (fun h2 => ?_)
  · obtain rfl : r = (S.Zone.zero, 2) := by rw [← hr2.out, if_pos (by simp at h2; grind)]
    simp -dsimp -implicitDefEqProofs [-getElem?_pos, -List.map_append, -List.map_set, List.getElem?_cons_zero, List.getElem?_cons_succ]
    exact ends_ag (by repeat (first | exact OutL.nil _ | refine OutL.at ?_ | refine OutL.nl ?_ | refine OutL.lst (by first | exact fun h => h | exact fun _ => rfl | exact fun h => by cases h) ?_ | refine OutL.ints rfl ⟨rfl, rfl⟩ rfl ?_ | refine OutL.ints rfl ⟨rfl, by simp⟩ (by simp) ?_ | refine OutL.answers rfl ⟨rfl, rfl⟩ rfl ?_ | refine OutL.answers rfl ⟨rfl, by simp⟩ (by simp) ?_ | refine OutL.zones rfl ⟨rfl, rfl⟩ rfl ?_ | refine OutL.zones rfl ⟨rfl, by simp⟩ (by simp) ?_ | refine OutL.lasts rfl ⟨rfl, rfl⟩ rfl ?_ | refine OutL.lasts rfl ⟨rfl, by simp⟩ (by simp) ?_ | refine OutL.hands rfl ⟨rfl, rfl⟩ rfl ?_ | refine OutL.hands rfl ⟨rfl, by simp⟩ (by simp) ?_ | refine OutL.mails rfl ⟨rfl, rfl⟩ rfl ?_ | refine OutL.mails rfl ⟨rfl, by simp⟩ (by simp) ?_ | refine OutL.recs rfl ⟨rfl, rfl⟩ rfl ?_ | refine OutL.recs rfl ⟨rfl, by simp⟩ (by simp) ?_ | refine OutL.bytes rfl ⟨rfl, rfl⟩ rfl ?_ | refine OutL.bytes rfl ⟨rfl, by simp⟩ (by simp) ?_ )) rfl
  have hr3 := hr2.out
  rw [if_neg (by simp at h2; grind)] at hr3
  replace hr3 := hid hr3
  clear hr2
  have hl2 : l.length ≤ 8 := by simp at h2; omega
  clear h2
  simp -dsimp -implicitDefEqProofs [-getElem?_pos, -List.map_append, -List.map_set, List.getElem?_cons_zero, List.getElem?_cons_succ]
  refine call_C (containsFunc_int S.bad _ l zone_bad) (by first | rfl | (simp -dsimp -implicitDefEqProofs; done)) (by first | exact Or.inr (by rfl) | exact Or.inl ⟨by rfl, by first | rfl | simp [newNews, newLeaf, I]⟩) (Nat.le_of_ble_eq_true rfl) ?_
  simp -dsimp -implicitDefEqProofs [-getElem?_pos, -List.map_append, -List.map_set, List.getElem?_cons_zero, List.getElem?_cons_succ]
  refine brA_split (fun h3 => ?_) (fun h3 => ?_)
  · obtain rfl : r = (S.Zone.zero, 3) := by rw [← hr3.out, if_pos h3]
    simp -dsimp -implicitDefEqProofs [-getElem?_pos, -List.map_append, -List.map_set, List.getElem?_cons_zero, List.getElem?_cons_succ]
    exact ends_ag (by repeat (first | exact OutL.nil _ | refine OutL.at ?_ | refine OutL.nl ?_ | refine OutL.lst (by first | exact fun h => h | exact fun _ => rfl | exact fun h => by cases h) ?_ | refine OutL.ints rfl ⟨rfl, rfl⟩ rfl ?_ | refine OutL.ints rfl ⟨rfl, by simp⟩ (by simp) ?_ | refine OutL.answers rfl ⟨rfl, rfl⟩ rfl ?_ | refine OutL.answers rfl ⟨rfl, by simp⟩ (by simp) ?_ | refine OutL.zones rfl ⟨rfl, rfl⟩ rfl ?_ | refine OutL.zones rfl ⟨rfl, by simp⟩ (by simp) ?_ | refine OutL.lasts rfl ⟨rfl, rfl⟩ rfl ?_ | refine OutL.lasts rfl ⟨rfl, by simp⟩ (by simp) ?_ | refine OutL.hands rfl ⟨rfl, rfl⟩ rfl ?_ | refine OutL.hands rfl ⟨rfl, by simp⟩ (by simp) ?_ | refine OutL.mails rfl ⟨rfl, rfl⟩ rfl ?_ | refine OutL.mails rfl ⟨rfl, by simp⟩ (by simp) ?_ | refine OutL.recs rfl ⟨rfl, rfl⟩ rfl ?_ | refine OutL.recs rfl ⟨rfl, by simp⟩ (by simp) ?_ | refine OutL.bytes rfl ⟨rfl, rfl⟩ rfl ?_ | refine OutL.bytes rfl ⟨rfl, by simp⟩ (by simp) ?_ )) rfl
  have hr4 := hr3.out
  rw [if_neg (by simp [h3])] at hr4
  replace hr4 := hid hr4
  clear hr3
  have hw : IntKind.i64.wrap (8 - (xs.length : Int)) = 8 - (xs.length : Int) := wrap_ok (by omega)
  simp -dsimp -implicitDefEqProofs [-getElem?_pos, -List.map_append, -List.map_set, List.getElem?_cons_zero, List.getElem?_cons_succ, hw]
  refine brA_split (fun h4 => ?_) (fun h4 => ?_)
  · obtain rfl : r = (S.Zone.zero, 7) := by rw [← hr4.out, if_pos (by simp at h4; omega)]
    simp -dsimp -implicitDefEqProofs [-getElem?_pos, -List.map_append, -List.map_set, List.getElem?_cons_zero, List.getElem?_cons_succ]
    exact ends_ag (by repeat (first | exact OutL.nil _ | refine OutL.at ?_ | refine OutL.nl ?_ | refine OutL.lst (by first | exact fun h => h | exact fun _ => rfl | exact fun h => by cases h) ?_ | refine OutL.ints rfl ⟨rfl, rfl⟩ rfl ?_ | refine OutL.ints rfl ⟨rfl, by simp⟩ (by simp) ?_ | refine OutL.answers rfl ⟨rfl, rfl⟩ rfl ?_ | refine OutL.answers rfl ⟨rfl, by simp⟩ (by simp) ?_ | refine OutL.zones rfl ⟨rfl, rfl⟩ rfl ?_ | refine OutL.zones rfl ⟨rfl, by simp⟩ (by simp) ?_ | refine OutL.lasts rfl ⟨rfl, rfl⟩ rfl ?_ | refine OutL.lasts rfl ⟨rfl, by simp⟩ (by simp) ?_ | refine OutL.hands rfl ⟨rfl, rfl⟩ rfl ?_ | refine OutL.hands rfl ⟨rfl, by simp⟩ (by simp) ?_ | refine OutL.mails rfl ⟨rfl, rfl⟩ rfl ?_ | refine OutL.mails rfl ⟨rfl, by simp⟩ (by simp) ?_ | refine OutL.recs rfl ⟨rfl, rfl⟩ rfl ?_ | refine OutL.recs rfl ⟨rfl, by simp⟩ (by simp) ?_ | refine OutL.bytes rfl ⟨rfl, rfl⟩ rfl ?_ | refine OutL.bytes rfl ⟨rfl, by simp⟩ (by simp) ?_ )) rfl
  have hr5 := hr4.out
  rw [if_neg (by simp at h4; omega)] at hr5
  subst hr5
  clear hr4
  have d1 : decide (100000000 < l.length) = false := by simp; omega
  have d2 : xs.length ≤ 100000000 := by omega
  simp -dsimp -implicitDefEqProofs [-getElem?_pos, -List.map_append, -List.map_set, List.getElem?_cons_zero, List.getElem?_cons_succ]
  refine call_C (zone_Copy ⟨st, xs⟩ (by simp only; omega)) (by first | rfl | (simp -dsimp -implicitDefEqProofs; done)) (by first | exact Or.inr (by rfl) | exact Or.inl ⟨by rfl, by first | rfl | simp [newNews, newLeaf, I]⟩) (Nat.le_of_ble_eq_true rfl) ?_
  simp -dsimp -implicitDefEqProofs [-getElem?_pos, -List.map_append, -List.map_set, List.getElem?_cons_zero, List.getElem?_cons_succ, d1, d2]
  by_cases c2 : st = 2
  · subst c2
    simp -dsimp -implicitDefEqProofs [-getElem?_pos, -List.map_append, -List.map_set, List.getElem?_cons_zero, List.getElem?_cons_succ]
    by_cases c8 : (xs.length : Int) + l.length = 8
    · have c8' : xs.length + l.length = 8 := by omega
      simp -dsimp -implicitDefEqProofs [-getElem?_pos, -List.map_append, -List.map_set, List.getElem?_cons_zero, List.getElem?_cons_succ, c8]
      exact ends_ag (by rw [if_pos c8']; exact (by repeat (first | exact OutL.nil _ | refine OutL.at ?_ | refine OutL.nl ?_ | refine OutL.lst (by first | exact fun h => h | exact fun _ => rfl | exact fun h => by cases h) ?_ | refine OutL.ints rfl ⟨rfl, rfl⟩ rfl ?_ | refine OutL.ints rfl ⟨rfl, by simp⟩ (by simp) ?_ | refine OutL.answers rfl ⟨rfl, rfl⟩ rfl ?_ | refine OutL.answers rfl ⟨rfl, by simp⟩ (by simp) ?_ | refine OutL.zones rfl ⟨rfl, rfl⟩ rfl ?_ | refine OutL.zones rfl ⟨rfl, by simp⟩ (by simp) ?_ | refine OutL.lasts rfl ⟨rfl, rfl⟩ rfl ?_ | refine OutL.lasts rfl ⟨rfl, by simp⟩ (by simp) ?_ | refine OutL.hands rfl ⟨rfl, rfl⟩ rfl ?_ | refine OutL.hands rfl ⟨rfl, by simp⟩ (by simp) ?_ | refine OutL.mails rfl ⟨rfl, rfl⟩ rfl ?_ | refine OutL.mails rfl ⟨rfl, by simp⟩ (by simp) ?_ | refine OutL.recs rfl ⟨rfl, rfl⟩ rfl ?_ | refine OutL.recs rfl ⟨rfl, by simp⟩ (by simp) ?_ | refine OutL.bytes rfl ⟨rfl, rfl⟩ rfl ?_ | refine OutL.bytes rfl ⟨rfl, by simp⟩ (by simp) ?_ ))) rfl
    · have c8' : ¬ xs.length + l.length = 8 := by omega
      simp -dsimp -implicitDefEqProofs [-getElem?_pos, -List.map_append, -List.map_set, List.getElem?_cons_zero, List.getElem?_cons_succ, c8]
      exact ends_ag (by simp only [c8']; exact (by repeat (first | exact OutL.nil _ | refine OutL.at ?_ | refine OutL.nl ?_ | refine OutL.lst (by first | exact fun h => h | exact fun _ => rfl | exact fun h => by cases h) ?_ | refine OutL.ints rfl ⟨rfl, rfl⟩ rfl ?_ | refine OutL.ints rfl ⟨rfl, by simp⟩ (by simp) ?_ | refine OutL.answers rfl ⟨rfl, rfl⟩ rfl ?_ | refine OutL.answers rfl ⟨rfl, by simp⟩ (by simp) ?_ | refine OutL.zones rfl ⟨rfl, rfl⟩ rfl ?_ | refine OutL.zones rfl ⟨rfl, by simp⟩ (by simp) ?_ | refine OutL.lasts rfl ⟨rfl, rfl⟩ rfl ?_ | refine OutL.lasts rfl ⟨rfl, by simp⟩ (by simp) ?_ | refine OutL.hands rfl ⟨rfl, rfl⟩ rfl ?_ | refine OutL.hands rfl ⟨rfl, by simp⟩ (by simp) ?_ | refine OutL.mails rfl ⟨rfl, rfl⟩ rfl ?_ | refine OutL.mails rfl ⟨rfl, by simp⟩ (by simp) ?_ | refine OutL.recs rfl ⟨rfl, rfl⟩ rfl ?_ | refine OutL.recs rfl ⟨rfl, by simp⟩ (by simp) ?_ | refine OutL.bytes rfl ⟨rfl, rfl⟩ rfl ?_ | refine OutL.bytes rfl ⟨rfl, by simp⟩ (by simp) ?_ ))) rfl
  · simp -dsimp -implicitDefEqProofs [-getElem?_pos, -List.map_append, -List.map_set, List.getElem?_cons_zero, List.getElem?_cons_succ, c2]
    by_cases c8 : (xs.length : Int) + l.length = 8
    · have c8' : xs.length + l.length = 8 := by omega
      simp -dsimp -implicitDefEqProofs [-getElem?_pos, -List.map_append, -List.map_set, List.getElem?_cons_zero, List.getElem?_cons_succ, c8]
      exact ends_ag (by rw [if_pos c8']; exact (by repeat (first | exact OutL.nil _ | refine OutL.at ?_ | refine OutL.nl ?_ | refine OutL.lst (by first | exact fun h => h | exact fun _ => rfl | exact fun h => by cases h) ?_ | refine OutL.ints rfl ⟨rfl, rfl⟩ rfl ?_ | refine OutL.ints rfl ⟨rfl, by simp⟩ (by simp) ?_ | refine OutL.answers rfl ⟨rfl, rfl⟩ rfl ?_ | refine OutL.answers rfl ⟨rfl, by simp⟩ (by simp) ?_ | refine OutL.zones rfl ⟨rfl, rfl⟩ rfl ?_ | refine OutL.zones rfl ⟨rfl, by simp⟩ (by simp) ?_ | refine OutL.lasts rfl ⟨rfl, rfl⟩ rfl ?_ | refine OutL.lasts rfl ⟨rfl, by simp⟩ (by simp) ?_ | refine OutL.hands rfl ⟨rfl, rfl⟩ rfl ?_ | refine OutL.hands rfl ⟨rfl, by simp⟩ (by simp) ?_ | refine OutL.mails rfl ⟨rfl, rfl⟩ rfl ?_ | refine OutL.mails rfl ⟨rfl, by simp⟩ (by simp) ?_ | refine OutL.recs rfl ⟨rfl, rfl⟩ rfl ?_ | refine OutL.recs rfl ⟨rfl, by simp⟩ (by simp) ?_ | refine OutL.bytes rfl ⟨rfl, rfl⟩ rfl ?_ | refine OutL.bytes rfl ⟨rfl, by simp⟩ (by simp) ?_ ))) rfl
    · have c8' : ¬ xs.length + l.length = 8 := by omega
      simp -dsimp -implicitDefEqProofs [-getElem?_pos, -List.map_append, -List.map_set, List.getElem?_cons_zero, List.getElem?_cons_succ, c8]
      exact ends_ag (by simp only [c8', c2]; exact (by repeat (first | exact OutL.nil _ | refine OutL.at ?_ | refine OutL.nl ?_ | refine OutL.lst (by first | exact fun h => h | exact fun _ => rfl | exact fun h => by cases h) ?_ | refine OutL.ints rfl ⟨rfl, rfl⟩ rfl ?_ | refine OutL.ints rfl ⟨rfl, by simp⟩ (by simp) ?_ | refine OutL.answers rfl ⟨rfl, rfl⟩ rfl ?_ | refine OutL.answers rfl ⟨rfl, by simp⟩ (by simp) ?_ | refine OutL.zones rfl ⟨rfl, rfl⟩ rfl ?_ | refine OutL.zones rfl ⟨rfl, by simp⟩ (by simp) ?_ | refine OutL.lasts rfl ⟨rfl, rfl⟩ rfl ?_ | refine OutL.lasts rfl ⟨rfl, by simp⟩ (by simp) ?_ | refine OutL.hands rfl ⟨rfl, rfl⟩ rfl ?_ | refine OutL.hands rfl ⟨rfl, by simp⟩ (by simp) ?_ | refine OutL.mails rfl ⟨rfl, rfl⟩ rfl ?_ | refine OutL.mails rfl ⟨rfl, by simp⟩ (by simp) ?_ | refine OutL.recs rfl ⟨rfl, rfl⟩ rfl ?_ | refine OutL.recs rfl ⟨rfl, by simp⟩ (by simp) ?_ | refine OutL.bytes rfl ⟨rfl, rfl⟩ rfl ?_ | refine OutL.bytes rfl ⟨rfl, by simp⟩ (by simp) ?_ ))) rfl

theorem ends_le {h : Heap} {n : Nat} {c target : AV} {e e' : Int} (ho : OutL h [c] [target]) (he : e = e') : Ends [] (.tup [target, Int' e']) [] h n (.tup [c, Int' e]) := by
  subst he
  obtain ⟨cells', ho, hs⟩ := ho
  cases hc : outLeaf h [] c with
  | none => rw [List.mapM_cons, hc] at ho; cases ho
  | some c' =>
    rw [List.mapM_cons, hc] at ho
    simp at ho
    subst ho
    have h1 : outAgg h [] c = some c' := by
      rw [← hc]
      cases c <;> first | rfl | (simp [outLeaf] at hc)
    refine ⟨⟨.tup [c', Int' e], ?_, .tup (.cons (.leaf (hs.2 0 _ _ rfl rfl)) (.cons (.leaf (.refl _)) (.nil _)))⟩, rfl⟩
    show (List.mapM (outAgg h []) [c, Int' e]).map AV.tup = _
    rw [List.mapM_cons, h1]
    rfl

theorem zone_Read (z : S.Zone) (a n : Int) : C Try.prog 55 [.agg (zoneC false z), Int' a, Int' n] (.tup [.lst true 1 (I (S.readZone z a n).1), Int' (S.readZone z a n).2]) [] := by
  obtain ⟨st, xs⟩ := z
  obtain ⟨r, hr⟩ : ∃ r, S.readZone ⟨st, xs⟩ a n = r := ⟨_, rfl⟩
  rw [hr]
  unfold S.readZone at hr
  have hlen := fun e => checkZone_len (z := ⟨st, xs⟩) e
  simp only at hr hlen
  replace hr := hid hr
  replace hlen := hid hlen
  refine C_inline [] Try.func55 (fun _ _ => by kernel_rfl) rfl (by kernel_rfl) (by rfl) (by decide) (by rfl) (by rfl) (by rfl) ?_
  simp -dsimp -implicitDefEqProofs [-getElem?_pos, -List.map_append, -List.map_set, List.getElem?_cons_zero, List.getElem?_cons_succ]
  refine call_C (zone_Check ⟨st, xs⟩) (by first | rfl | (simp -dsimp -implicitDefEqProofs; done)) (by first | exact Or.inr (by rfl) | exact Or.inl ⟨by rfl, by first | rfl | simp [newNews, newLeaf, I]⟩) (Nat.le_of_ble_eq_true rfl) ?_
  simp -dsimp -implicitDefEqProofs [-getElem?_pos, -List.map_append, -List.map_set, List.getElem?_cons_zero, List.getElem?_cons_succ]
  refine brA_split (fun h1 => ?_) (fun h1 => ?_)
  rotate_left
  · obtain rfl : r = ([], S.checkZone ⟨st, xs⟩) := by rw [← hr.out]; simp at h1; simp [h1]
    simp -dsimp -implicitDefEqProofs [-getElem?_pos, -List.map_append, -List.map_set, List.getElem?_cons_zero, List.getElem?_cons_succ]
    exact ends_le (by repeat (first | exact OutL.nil _ | refine OutL.at ?_ | refine OutL.nl ?_ | refine OutL.lst (by first | exact fun h => h | exact fun _ => rfl | exact fun h => by cases h) ?_ | refine OutL.ints rfl ⟨rfl, rfl⟩ rfl ?_ | refine OutL.ints rfl ⟨rfl, by simp⟩ (by simp) ?_ | refine OutL.answers rfl ⟨rfl, rfl⟩ rfl ?_ | refine OutL.answers rfl ⟨rfl, by simp⟩ (by simp) ?_ | refine OutL.zones rfl ⟨rfl, rfl⟩ rfl ?_ | refine OutL.zones rfl ⟨rfl, by simp⟩ (by simp) ?_ | refine OutL.lasts rfl ⟨rfl, rfl⟩ rfl ?_ | refine OutL.lasts rfl ⟨rfl, by simp⟩ (by simp) ?_ | refine OutL.hands rfl ⟨rfl, rfl⟩ rfl ?_ | refine OutL.hands rfl ⟨rfl, by simp⟩ (by simp) ?_ | refine OutL.mails rfl ⟨rfl, rfl⟩ rfl ?_ | refine OutL.mails rfl ⟨rfl, by simp⟩ (by simp) ?_ | refine OutL.recs rfl ⟨rfl, rfl⟩ rfl ?_ | refine OutL.recs rfl ⟨rfl, by simp⟩ (by simp) ?_ | refine OutL.bytes rfl ⟨rfl, rfl⟩ rfl ?_ | refine OutL.bytes rfl ⟨rfl, by simp⟩ (by simp) ?_ )) rfl
  simp at h1
  have hl := hlen.out h1
  have hr2 := hr.out
  rw [if_neg (by simp [h1])] at hr2
  replace hr2 := hid hr2
  clear hr hlen
  simp -dsimp -implicitDefEqProofs [-getElem?_pos, -List.map_append, -List.map_set, List.getElem?_cons_zero, List.getElem?_cons_succ]
  by_cases c1 : a < 0 ∨ 8 < a
  · have e1 : (decide (a < 0) || decide (8 < a)) = true := by simpa using c1
    simp -dsimp -implicitDefEqProofs [-getElem?_pos, -List.map_append, -List.map_set, List.getElem?_cons_zero, List.getElem?_cons_succ, e1]
    obtain rfl : r = ([], 3) := by rw [← hr2.out, if_pos (by omega)]
    exact ends_le (by repeat (first | exact OutL.nil _ | refine OutL.at ?_ | refine OutL.nl ?_ | refine OutL.lst (by first | exact fun h => h | exact fun _ => rfl | exact fun h => by cases h) ?_ | refine OutL.ints rfl ⟨rfl, rfl⟩ rfl ?_ | refine OutL.ints rfl ⟨rfl, by simp⟩ (by simp) ?_ | refine OutL.answers rfl ⟨rfl, rfl⟩ rfl ?_ | refine OutL.answers rfl ⟨rfl, by simp⟩ (by simp) ?_ | refine OutL.zones rfl ⟨rfl, rfl⟩ rfl ?_ | refine OutL.zones rfl ⟨rfl, by simp⟩ (by simp) ?_ | refine OutL.lasts rfl ⟨rfl, rfl⟩ rfl ?_ | refine OutL.lasts rfl ⟨rfl, by simp⟩ (by simp) ?_ | refine OutL.hands rfl ⟨rfl, rfl⟩ rfl ?_ | refine OutL.hands rfl ⟨rfl, by simp⟩ (by simp) ?_ | refine OutL.mails rfl ⟨rfl, rfl⟩ rfl ?_ | refine OutL.mails rfl ⟨rfl, by simp⟩ (by simp) ?_ | refine OutL.recs rfl ⟨rfl, rfl⟩ rfl ?_ | refine OutL.recs rfl ⟨rfl, by simp⟩ (by simp) ?_ | refine OutL.bytes rfl ⟨rfl, rfl⟩ rfl ?_ | refine OutL.bytes rfl ⟨rfl, by simp⟩ (by simp) ?_ )) rfl
  have hw : IntKind.i64.wrap (8 - a) = 8 - a := wrap_ok (by omega)
  simp -dsimp -implicitDefEqProofs [-getElem?_pos, -List.map_append, -List.map_set, List.getElem?_cons_zero, List.getElem?_cons_succ, hw]
  refine brA_split (fun h2 => ?_) (fun h2 => ?_)
  · obtain rfl : r = ([], 3) := by rw [← hr2.out, if_pos (by simp at h2; omega)]
    simp -dsimp -implicitDefEqProofs [-getElem?_pos, -List.map_append, -List.map_set, List.getElem?_cons_zero, List.getElem?_cons_succ]
    exact ends_le (by repeat (first | exact OutL.nil _ | refine OutL.at ?_ | refine OutL.nl ?_ | refine OutL.lst (by first | exact fun h => h | exact fun _ => rfl | exact fun h => by cases h) ?_ | refine OutL.ints rfl ⟨rfl, rfl⟩ rfl ?_ | refine OutL.ints rfl ⟨rfl, by simp⟩ (by simp) ?_ | refine OutL.answers rfl ⟨rfl, rfl⟩ rfl ?_ | refine OutL.answers rfl ⟨rfl, by simp⟩ (by simp) ?_ | refine OutL.zones rfl ⟨rfl, rfl⟩ rfl ?_ | refine OutL.zones rfl ⟨rfl, by simp⟩ (by simp) ?_ | refine OutL.lasts rfl ⟨rfl, rfl⟩ rfl ?_ | refine OutL.lasts rfl ⟨rfl, by simp⟩ (by simp) ?_ | refine OutL.hands rfl ⟨rfl, rfl⟩ rfl ?_ | refine OutL.hands rfl ⟨rfl, by simp⟩ (by simp) ?_ | refine OutL.mails rfl ⟨rfl, rfl⟩ rfl ?_ | refine OutL.mails rfl ⟨rfl, by simp⟩ (by simp) ?_ | refine OutL.recs rfl ⟨rfl, rfl⟩ rfl ?_ | refine OutL.recs rfl ⟨rfl, by simp⟩ (by simp) ?_ | refine OutL.bytes rfl ⟨rfl, rfl⟩ rfl ?_ | refine OutL.bytes rfl ⟨rfl, by simp⟩ (by simp) ?_ )) rfl
  have hr3 := hr2.out
  rw [if_neg (by simp at h2; omega)] at hr3
  replace hr3 := hid hr3
  clear hr2
  simp at h2
  have hw2 : IntKind.i64.wrap (a + n) = a + n := wrap_ok (by omega)
  simp -dsimp -implicitDefEqProofs [-getElem?_pos, -List.map_append, -List.map_set, List.getElem?_cons_zero, List.getElem?_cons_succ, hw2]
  refine brA_split (fun h3 => ?_) (fun h3 => ?_)
  · obtain rfl : r = ([], 6) := by rw [← hr3.out, if_pos (by simpa using h3)]
    simp -dsimp -implicitDefEqProofs [-getElem?_pos, -List.map_append, -List.map_set, List.getElem?_cons_zero, List.getElem?_cons_succ]
    exact ends_le (by repeat (first | exact OutL.nil _ | refine OutL.at ?_ | refine OutL.nl ?_ | refine OutL.lst (by first | exact fun h => h | exact fun _ => rfl | exact fun h => by cases h) ?_ | refine OutL.ints rfl ⟨rfl, rfl⟩ rfl ?_ | refine OutL.ints rfl ⟨rfl, by simp⟩ (by simp) ?_ | refine OutL.answers rfl ⟨rfl, rfl⟩ rfl ?_ | refine OutL.answers rfl ⟨rfl, by simp⟩ (by simp) ?_ | refine OutL.zones rfl ⟨rfl, rfl⟩ rfl ?_ | refine OutL.zones rfl ⟨rfl, by simp⟩ (by simp) ?_ | refine OutL.lasts rfl ⟨rfl, rfl⟩ rfl ?_ | refine OutL.lasts rfl ⟨rfl, by simp⟩ (by simp) ?_ | refine OutL.hands rfl ⟨rfl, rfl⟩ rfl ?_ | refine OutL.hands rfl ⟨rfl, by simp⟩ (by simp) ?_ | refine OutL.mails rfl ⟨rfl, rfl⟩ rfl ?_ | refine OutL.mails rfl ⟨rfl, by simp⟩ (by simp) ?_ | refine OutL.recs rfl ⟨rfl, rfl⟩ rfl ?_ | refine OutL.recs rfl ⟨rfl, by simp⟩ (by simp) ?_ | refine OutL.bytes rfl ⟨rfl, rfl⟩ rfl ?_ | refine OutL.bytes rfl ⟨rfl, by simp⟩ (by simp) ?_ )) rfl
  have hr4 := hr3.out
  rw [if_neg (by simpa using h3)] at hr4
  subst hr4
  clear hr3
  simp at h3
  obtain ⟨a', rfl⟩ : ∃ a' : Nat, a = a' := ⟨a.toNat, by omega⟩
  obtain ⟨n', rfl⟩ : ∃ n' : Nat, n = n' := ⟨n.toNat, by omega⟩
  have d1 : a' ≤ a' + n' := by omega
  have d2 : a' + n' ≤ xs.length := by omega
  have d3 : ((a' : Int) + (n' : Int)).toNat = a' + n' := by omega
  have d4 : (0 : Int) ≤ (a' : Int) + (n' : Int) := by omega
  have dr : (xs.take (a' + n')).drop a' = (xs.drop a').take n' := by rw [List.drop_take]; congr 1; omega
  have hcl := hid (clone_int ((xs.take (a' + n')).drop a') (by simp; omega))
  rw [dr] at hcl
  simp -dsimp -implicitDefEqProofs [-getElem?_pos, -List.map_append, -List.map_set, List.getElem?_cons_zero, List.getElem?_cons_succ, hw2, d1, d2, d3, d4, dr]
  refine call_C (hcl.out) (by first | rfl | (simp -dsimp -implicitDefEqProofs; done)) (by first | exact Or.inr (by rfl) | exact Or.inl ⟨by rfl, by first | rfl | simp [newNews, newLeaf, I]⟩) (Nat.le_of_ble_eq_true rfl) ?_
  simp -dsimp -implicitDefEqProofs [-getElem?_pos, -List.map_append, -List.map_set, List.getElem?_cons_zero, List.getElem?_cons_succ]
  exact ends_le (by repeat (first | exact OutL.nil _ | refine OutL.at ?_ | refine OutL.nl ?_ | refine OutL.lst (by first | exact fun h => h | exact fun _ => rfl | exact fun h => by cases h) ?_ | refine OutL.ints rfl ⟨rfl, rfl⟩ rfl ?_ | refine OutL.ints rfl ⟨rfl, by simp⟩ (by simp) ?_ | refine OutL.answers rfl ⟨rfl, rfl⟩ rfl ?_ | refine OutL.answers rfl ⟨rfl, by simp⟩ (by simp) ?_ | refine OutL.zones rfl ⟨rfl, rfl⟩ rfl ?_ | refine OutL.zones rfl ⟨rfl, by simp⟩ (by simp) ?_ | refine OutL.lasts rfl ⟨rfl, rfl⟩ rfl ?_ | refine OutL.lasts rfl ⟨rfl, by simp⟩ (by simp) ?_ | refine OutL.hands rfl ⟨rfl, rfl⟩ rfl ?_ | refine OutL.hands rfl ⟨rfl, by simp⟩ (by simp) ?_ | refine OutL.mails rfl ⟨rfl, rfl⟩ rfl ?_ | refine OutL.mails rfl ⟨rfl, by simp⟩ (by simp) ?_ | refine OutL.recs rfl ⟨rfl, rfl⟩ rfl ?_ | refine OutL.recs rfl ⟨rfl, by simp⟩ (by simp) ?_ | refine OutL.bytes rfl ⟨rfl, rfl⟩ rfl ?_ | refine OutL.bytes rfl ⟨rfl, by simp⟩ (by simp) ?_ )) rfl

end Go.Proofs.Ytdjdjnmccphbjaa.E
