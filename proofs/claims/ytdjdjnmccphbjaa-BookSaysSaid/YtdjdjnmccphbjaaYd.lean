/- Yd: zones of which few may be open: closed, finished, reset. -/
import Derived.Test.YtdjdjnmccphbjaaYc
namespace Go.Proofs.Ytdjdjnmccphbjaa.E
open Go.RowKit Go.Proofs
set_option maxRecDepth 100000
set_option maxHeartbeats 1000000
set_option linter.unusedSimpArgs false

theorem ready_parts {zs : List S.Zone} {k : Int} (h : S.readyZ zs k = 0) : S.checkZones zs = 0 ∧ ∃ (n : Nat) (z : S.Zone), k = (n : Int) ∧ n < 4 ∧ zs[n]? = some z := by
  unfold S.readyZ at h
  by_cases h1 : S.checkZones zs ≠ 0
  · rw [if_pos h1] at h; exact absurd h h1
  rw [if_neg h1] at h
  by_cases h2 : k < 0 ∨ 4 ≤ k
  · rw [if_pos h2] at h; cases h
  have h1 : S.checkZones zs = 0 := by simpa using h1
  have hl := (checkZones_parts h1).1
  refine ⟨h1, k.toNat, zs[k.toNat]'(by omega), by omega, by omega, by simp⟩

theorem yard_ready_bad (zs : List S.Zone) (k : Int) (h : S.readyZ zs k ≠ 0) : C Try.prog 104 [.lst false 2 (zs.map (zoneC false)), Int' k] (.tup [.nl, Int' (S.readyZ zs k)]) [] := by
  obtain ⟨r, hr⟩ : ∃ r, S.readyZ zs k = r := ⟨_, rfl⟩
  rw [hr] at h ⊢
  unfold S.readyZ at hr
  replace hr := hid hr
  refine C_inline [] Try.func104 (fun _ _ => by kernel_rfl) rfl (by kernel_rfl) (by rfl) (by decide) (by rfl) (by rfl) (by rfl) ?_
  simp -dsimp -implicitDefEqProofs [-getElem?_pos, -List.map_append, -List.map_set, List.getElem?_cons_zero, List.getElem?_cons_succ]
  refine call_C (yard_Check zs) (by first | rfl | (simp -dsimp -implicitDefEqProofs; done)) (by first | exact Or.inr (by rfl) | exact Or.inl ⟨by rfl, by first | rfl | simp [newNews, newLeaf, I]⟩) (Nat.le_of_ble_eq_true rfl) ?_
  simp -dsimp -implicitDefEqProofs [-getElem?_pos, -List.map_append, -List.map_set, List.getElem?_cons_zero, List.getElem?_cons_succ]
  refine brA_split (fun h1 => ?_) (fun h1 => ?_)
  rotate_left
  · obtain rfl : S.checkZones zs = r := by rw [← hr.out, if_pos (by simpa using h1)]
    simp -dsimp -implicitDefEqProofs [-getElem?_pos, -List.map_append, -List.map_set, List.getElem?_cons_zero, List.getElem?_cons_succ]
    exact ⟨⟨_, rfl, Sub.refl _⟩, rfl⟩
  simp at h1
  have hl := (checkZones_parts h1).1
  have hl' : (zs.length : Int) = 4 := by omega
  have hr2 := hr.out
  rw [if_neg (by simp [h1])] at hr2
  have hk : k < 0 ∨ 4 ≤ k := by
    by_cases g : k < 0 ∨ 4 ≤ k
    · exact g
    · rw [if_neg g] at hr2; exact absurd hr2.symm h
  rw [if_pos hk] at hr2
  subst hr2
  have hk' : (decide (k < 0) || decide (4 ≤ k)) = true := by simpa using hk
  clear hr
  simp -dsimp -implicitDefEqProofs [-getElem?_pos, -List.map_append, -List.map_set, List.getElem?_cons_zero, List.getElem?_cons_succ, hl', hk']
  exact ⟨⟨_, rfl, Sub.refl _⟩, rfl⟩

theorem yard_ready_ok (zs : List S.Zone) (k : Int) (h : S.readyZ zs k = 0) : C Try.prog 104 [.lst false 2 (zs.map (zoneC false)), Int' k] (.tup [.own 0 0 4, Int' 0]) [⟨72, 2, zs.map (zoneC true)⟩] := by
  obtain ⟨h1, n, z, rfl, hn, hz⟩ := ready_parts h
  obtain ⟨hl, hc, -⟩ := checkZones_parts h1
  have hl' : (zs.length : Int) = 4 := by omega
  have hcp := yard_Copy zs (by omega) (fun z hz => by have := checkZone_len (hc z hz); omega)
  rw [hl] at hcp
  replace hcp := hid hcp
  have hn1 : decide ((4 : Int) ≤ (n : Int)) = false := by simp; omega
  have hn2 : decide ((n : Int) < 0) = false := by simp
  replace hl := hid hl
  refine C_inline [64] Try.func104 (fun _ _ => by kernel_rfl) rfl (by kernel_rfl) (by rfl) (by decide) (by rfl) (by rfl) (by first | rfl | exact plain_I _ | exact plain_map (fun _ => rfl) _) ?_
  simp -dsimp -implicitDefEqProofs [-getElem?_pos, -List.map_append, -List.map_set, List.getElem?_cons_zero, List.getElem?_cons_succ]
  refine call_C (yard_Check zs) (by first | rfl | (simp -dsimp -implicitDefEqProofs; done)) (by first | exact Or.inr (by rfl) | exact Or.inl ⟨by rfl, by first | rfl | simp [newNews, newLeaf, I]⟩) (Nat.le_of_ble_eq_true rfl) ?_
  simp -dsimp -implicitDefEqProofs [-getElem?_pos, -List.map_append, -List.map_set, List.getElem?_cons_zero, List.getElem?_cons_succ, h1, hl', hn1, hn2]
  refine call_C (hcp.out) (by first | rfl | (simp -dsimp -implicitDefEqProofs; done)) (by first | exact Or.inr (by rfl) | exact Or.inl ⟨by rfl, by first | rfl | simp [newNews, newLeaf, I]⟩) (Nat.le_of_ble_eq_true rfl) ?_
  simp -dsimp -implicitDefEqProofs [-getElem?_pos, -List.map_append, -List.map_set, List.getElem?_cons_zero, List.getElem?_cons_succ]
  exact ⟨⟨_, rfl, Sub.refl _⟩, rfl⟩

theorem set_map {α β : Type} {f : α → β} {xs : List α} {n : Nat} {y : α} {b : β} (h : b = f y) : (xs.map f).set n b = (xs.set n y).map f := by subst h; simp

@[simp] theorem set_zone (fr : Bool) (zs : List S.Zone) (n : Nat) (a : Int) (d : List Int) : (zs.map (zoneC fr)).set n [.at (.int .i64 a), .lst fr 1 (I d)] = (zs.set n ⟨a, d⟩).map (zoneC fr) := (set_map rfl)

theorem own_zones {h : Heap} {i n : Nat} {e : HE} {xs : List S.Zone} (hi : h i = some e) (he : e.s = 2 ∧ e.rows = xs.map (zoneC true)) (hn : n = xs.length) : outLeaf h [] (.own i 0 n) = some (.lst true 2 (xs.map (zoneC false))) := by
  have hi' : h i = some ⟨e.ty, 2, xs.map (zoneC true)⟩ := by rw [hi, ← he.1, ← he.2]
  exact own_outR hi' (by simpa using hn) (mapM_map (f := zoneC true) (g := fun (r : List AV) => r.mapM (leafP h [] 2)) (e := zoneC false) (fun _ => rfl) xs) (by simp [freshCell])
theorem OutL.zones {h : Heap} {i n : Nat} {e : HE} {fr : Bool} {xs : List S.Zone} {cs ts : List AV} (hi : h i = some e) (he : e.s = 2 ∧ e.rows = xs.map (zoneC true)) (hn : n = xs.length) (g : OutL h cs ts) : OutL h (.own i 0 n :: cs) (.lst fr 2 (xs.map (zoneC false)) :: ts) :=
  .cons (own_zones hi he hn) (.lst (fun _ => rfl) (SubR.refl _)) g

def unfr : AV → AV
  | .lst _ s rows => .lst false s rows
  | a => a
theorem plain_rows {h : Heap} {rows : List (List AV)} (hp : ∀ r, r ∈ rows → r.all plainCell = true) : rows.mapM (fun (r : List AV) => r.mapM (leafP h [] 2)) = some (rows.map fun r => r.map unfr) :=
  mapM_mem fun r hr => mapM_mem fun c hc => by
    have := List.all_eq_true.1 (hp r hr) c hc
    cases c <;> simp [plainCell] at this <;> rfl
theorem SubR.set {a b : List (List AV)} (h : SubR a b) {n : Nat} {x y : List AV} (g : SubL SubC x y) : SubR (a.set n x) (b.set n y) := by
  refine ⟨by simp [h.1], fun k r r' h1 h2 => ?_⟩
  rw [List.getElem?_set] at h1 h2
  split at h1
  · rename_i e; subst e
    split at h1
    · rw [if_pos rfl, if_pos (by rw [← h.1]; assumption)] at h2
      cases h1; cases h2; exact g
    · cases h1
  · rename_i e
    rw [if_neg e] at h2
    exact h.2 k r r' h1 h2
theorem OutL.zones0 {h : Heap} {i n k : Nat} {e : HE} {fr : Bool} {xs : List S.Zone} {cs ts : List AV} (hi : h i = some e) (he : e.s = 2 ∧ e.rows = (xs.map (zoneC true)).set k [Int' 0, .nl]) (hn : n = xs.length) (g : OutL h cs ts) :
    OutL h (.own i 0 n :: cs) (.lst fr 2 ((xs.set k S.Zone.zero).map (zoneC false)) :: ts) := by
  have hi' : h i = some ⟨e.ty, 2, (xs.map (zoneC true)).set k [Int' 0, .nl]⟩ := by rw [hi, ← he.1, ← he.2]
  have hmem : ∀ r, r ∈ (xs.map (zoneC true)).set k [Int' 0, .nl] → r = [Int' 0, .nl] ∨ ∃ z, r = zoneC true z := by
    intro r hr
    rcases List.mem_or_eq_of_mem_set hr with hr | hr
    · obtain ⟨z, _, rfl⟩ := List.mem_map.1 hr
      exact Or.inr ⟨z, rfl⟩
    · exact Or.inl hr
  have hm := plain_rows (h := h) (rows := (xs.map (zoneC true)).set k [Int' 0, .nl]) (fun r hr => by
    rcases hmem r hr with rfl | ⟨z, rfl⟩ <;> rfl)
  have hout := own_outR hi' (n := n) (by simp [hn]) hm (by
    rw [List.all_eq_true]
    intro r hr
    rcases hmem r hr with rfl | ⟨z, rfl⟩ <;> rfl)
  refine .cons hout (.lst (fun _ => rfl) ?_) g
  have e1 : ((xs.map (zoneC true)).set k [Int' 0, .nl]).map (fun r => r.map unfr) = (xs.map (zoneC false)).set k [Int' 0, .nl] := by
    rw [List.map_set, List.map_map]
    rfl
  rw [e1, List.map_set]
  exact SubR.set (SubR.refl _) (.cons (.refl _) (.cons .nl (.nil _)))
theorem get_set_self {α : Type} {xs : List α} {n : Nat} {z y : α} (h : xs[n]? = some z) : (xs.set n y)[n]? = some y := by
  have := (List.getElem?_eq_some_iff.1 h).1
  simp [this]
theorem getD_of {α : Type} {xs : List α} {n : Nat} {z d : α} (h : xs[n]? = some z) : xs.getD n d = z := by simp [List.getD, h]

theorem yard_Finish (zs : List S.Zone) (k : Int) : C Try.prog 51 [.lst false 2 (zs.map (zoneC false)), Int' k] (.tup [.lst true 2 ((S.finishZ zs k).1.map (zoneC false)), Int' (S.finishZ zs k).2]) [] := by
  by_cases h : S.readyZ zs k = 0
  · have hc := hid (yard_ready_ok zs k h)
    obtain ⟨h1, n, z, rfl, hn, hz⟩ := ready_parts h
    have hl := (checkZones_parts h1).1
    have hr : S.finishZ zs n = (zs.set n ⟨4, z.d⟩, 0) := by
      unfold S.finishZ
      rw [if_neg (by simp [h])]
      simp [hz]
    rw [hr]
    replace hl := hid hl
    refine C_inline [] Try.func51 (fun _ _ => by kernel_rfl) rfl (by kernel_rfl) (by rfl) (by decide) (by rfl) (by rfl) (by rfl) ?_
    simp -dsimp -implicitDefEqProofs [-getElem?_pos, -List.map_append, -List.map_set, List.getElem?_cons_zero, List.getElem?_cons_succ]
    refine call_C (hc.out) (by first | rfl | (simp -dsimp -implicitDefEqProofs; done)) (by first | exact Or.inr (by rfl) | exact Or.inl ⟨by rfl, by first | rfl | simp [newNews, newLeaf, I]⟩) (Nat.le_of_ble_eq_true rfl) ?_
    simp -dsimp -implicitDefEqProofs [-getElem?_pos, -List.map_append, -List.map_set, List.getElem?_cons_zero, List.getElem?_cons_succ, hn, hl.out, hz]
    exact ends_le (OutL.zones rfl ⟨rfl, rfl⟩ (by simp [hl.out]) (OutL.nil _)) rfl
  · refine C_inline [] Try.func51 (fun _ _ => by kernel_rfl) rfl (by kernel_rfl) (by rfl) (by decide) (by rfl) (by rfl) (by rfl) ?_
    simp -dsimp -implicitDefEqProofs [-getElem?_pos, -List.map_append, -List.map_set, List.getElem?_cons_zero, List.getElem?_cons_succ]
    refine call_C (yard_ready_bad zs k h) (by first | rfl | (simp -dsimp -implicitDefEqProofs; done)) (by first | exact Or.inr (by rfl) | exact Or.inl ⟨by rfl, by first | rfl | simp [newNews, newLeaf, I]⟩) (Nat.le_of_ble_eq_true rfl) ?_
    simp -dsimp -implicitDefEqProofs [-getElem?_pos, -List.map_append, -List.map_set, List.getElem?_cons_zero, List.getElem?_cons_succ, h]
    have hr : S.finishZ zs k = ([], S.readyZ zs k) := by unfold S.finishZ; rw [if_pos h]
    rw [hr]
    exact ends_le (by repeat (first | exact OutL.nil _ | refine OutL.at ?_ | refine OutL.nl ?_ | refine OutL.lst (by first | exact fun h => h | exact fun _ => rfl | exact fun h => by cases h) ?_ | refine OutL.ints rfl ⟨rfl, rfl⟩ rfl ?_ | refine OutL.ints rfl ⟨rfl, by simp⟩ (by simp) ?_ | refine OutL.answers rfl ⟨rfl, rfl⟩ rfl ?_ | refine OutL.answers rfl ⟨rfl, by simp⟩ (by simp) ?_ | refine OutL.zones rfl ⟨rfl, rfl⟩ rfl ?_ | refine OutL.zones rfl ⟨rfl, by simp⟩ (by simp) ?_ | refine OutL.lasts rfl ⟨rfl, rfl⟩ rfl ?_ | refine OutL.lasts rfl ⟨rfl, by simp⟩ (by simp) ?_ | refine OutL.hands rfl ⟨rfl, rfl⟩ rfl ?_ | refine OutL.hands rfl ⟨rfl, by simp⟩ (by simp) ?_ | refine OutL.mails rfl ⟨rfl, rfl⟩ rfl ?_ | refine OutL.mails rfl ⟨rfl, by simp⟩ (by simp) ?_ | refine OutL.recs rfl ⟨rfl, rfl⟩ rfl ?_ | refine OutL.recs rfl ⟨rfl, by simp⟩ (by simp) ?_ | refine OutL.bytes rfl ⟨rfl, rfl⟩ rfl ?_ | refine OutL.bytes rfl ⟨rfl, by simp⟩ (by simp) ?_ )) rfl

theorem yard_Reset (zs : List S.Zone) (k : Int) : C Try.prog 52 [.lst false 2 (zs.map (zoneC false)), Int' k] (.tup [.lst true 2 ((S.resetZ zs k).1.map (zoneC false)), Int' (S.resetZ zs k).2]) [] := by
  by_cases h : S.readyZ zs k = 0
  · have hc := hid (yard_ready_ok zs k h)
    obtain ⟨h1, n, z, rfl, hn, hz⟩ := ready_parts h
    have hl := (checkZones_parts h1).1
    have hr : S.resetZ zs n = (zs.set n S.Zone.zero, 0) := by
      unfold S.resetZ
      rw [if_neg (by simp [h])]
      simp
    rw [hr]
    replace hl := hid hl
    refine C_inline [] Try.func52 (fun _ _ => by kernel_rfl) rfl (by kernel_rfl) (by rfl) (by decide) (by rfl) (by rfl) (by rfl) ?_
    simp -dsimp -implicitDefEqProofs [-getElem?_pos, -List.map_append, -List.map_set, List.getElem?_cons_zero, List.getElem?_cons_succ]
    refine call_C (hc.out) (by first | rfl | (simp -dsimp -implicitDefEqProofs; done)) (by first | exact Or.inr (by rfl) | exact Or.inl ⟨by rfl, by first | rfl | simp [newNews, newLeaf, I]⟩) (Nat.le_of_ble_eq_true rfl) ?_
    simp -dsimp -implicitDefEqProofs [-getElem?_pos, -List.map_append, -List.map_set, List.getElem?_cons_zero, List.getElem?_cons_succ, hn, hl.out, hz]
    exact ends_le (OutL.zones0 rfl ⟨rfl, rfl⟩ (by simp [hl.out]) (OutL.nil _)) rfl
  · refine C_inline [] Try.func52 (fun _ _ => by kernel_rfl) rfl (by kernel_rfl) (by rfl) (by decide) (by rfl) (by rfl) (by rfl) ?_
    simp -dsimp -implicitDefEqProofs [-getElem?_pos, -List.map_append, -List.map_set, List.getElem?_cons_zero, List.getElem?_cons_succ]
    refine call_C (yard_ready_bad zs k h) (by first | rfl | (simp -dsimp -implicitDefEqProofs; done)) (by first | exact Or.inr (by rfl) | exact Or.inl ⟨by rfl, by first | rfl | simp [newNews, newLeaf, I]⟩) (Nat.le_of_ble_eq_true rfl) ?_
    simp -dsimp -implicitDefEqProofs [-getElem?_pos, -List.map_append, -List.map_set, List.getElem?_cons_zero, List.getElem?_cons_succ, h]
    have hr : S.resetZ zs k = ([], S.readyZ zs k) := by unfold S.resetZ; rw [if_pos h]
    rw [hr]
    exact ends_le (by repeat (first | exact OutL.nil _ | refine OutL.at ?_ | refine OutL.nl ?_ | refine OutL.lst (by first | exact fun h => h | exact fun _ => rfl | exact fun h => by cases h) ?_ | refine OutL.ints rfl ⟨rfl, rfl⟩ rfl ?_ | refine OutL.ints rfl ⟨rfl, by simp⟩ (by simp) ?_ | refine OutL.answers rfl ⟨rfl, rfl⟩ rfl ?_ | refine OutL.answers rfl ⟨rfl, by simp⟩ (by simp) ?_ | refine OutL.zones rfl ⟨rfl, rfl⟩ rfl ?_ | refine OutL.zones rfl ⟨rfl, by simp⟩ (by simp) ?_ | refine OutL.lasts rfl ⟨rfl, rfl⟩ rfl ?_ | refine OutL.lasts rfl ⟨rfl, by simp⟩ (by simp) ?_ | refine OutL.hands rfl ⟨rfl, rfl⟩ rfl ?_ | refine OutL.hands rfl ⟨rfl, by simp⟩ (by simp) ?_ | refine OutL.mails rfl ⟨rfl, rfl⟩ rfl ?_ | refine OutL.mails rfl ⟨rfl, by simp⟩ (by simp) ?_ | refine OutL.recs rfl ⟨rfl, rfl⟩ rfl ?_ | refine OutL.recs rfl ⟨rfl, by simp⟩ (by simp) ?_ | refine OutL.bytes rfl ⟨rfl, rfl⟩ rfl ?_ | refine OutL.bytes rfl ⟨rfl, by simp⟩ (by simp) ?_ )) rfl

theorem yard_Close (zs : List S.Zone) (k : Int) : C Try.prog 50 [.lst false 2 (zs.map (zoneC false)), Int' k] (.tup [.lst true 2 ((S.closeZ zs k).1.map (zoneC false)), Int' (S.closeZ zs k).2]) [] := by
  by_cases h : S.readyZ zs k = 0
  · have hc := hid (yard_ready_ok zs k h)
    obtain ⟨h1, n, z, rfl, hn, hz⟩ := ready_parts h
    have hl := (checkZones_parts h1).1
    have hr : S.closeZ zs n = if S.isOpen z = false then ([], 6) else (zs.set n (S.shutZ z), 0) := by
      unfold S.closeZ
      rw [if_neg (by simp [h])]
      simp [hz]
    obtain ⟨r, hr0⟩ : ∃ r, S.closeZ zs n = r := ⟨_, rfl⟩
    rw [hr0] at hr ⊢
    clear hr0
    replace hl := hid hl
    replace hr := hid hr
    refine C_inline [] Try.func50 (fun _ _ => by kernel_rfl) rfl (by kernel_rfl) (by rfl) (by decide) (by rfl) (by rfl) (by rfl) ?_
    simp -dsimp -implicitDefEqProofs [-getElem?_pos, -List.map_append, -List.map_set, List.getElem?_cons_zero, List.getElem?_cons_succ]
    refine call_C (hc.out) (by first | rfl | (simp -dsimp -implicitDefEqProofs; done)) (by first | exact Or.inr (by rfl) | exact Or.inl ⟨by rfl, by first | rfl | simp [newNews, newLeaf, I]⟩) (Nat.le_of_ble_eq_true rfl) ?_
    simp -dsimp -implicitDefEqProofs [-getElem?_pos, -List.map_append, -List.map_set, List.getElem?_cons_zero, List.getElem?_cons_succ, hn, hl.out, hz]
    refine brA_split (fun h2 => ?_) (fun h2 => ?_)
    · have : S.isOpen z = false := by simp at h2; simp [S.isOpen, h2]
      obtain rfl : r = ([], 6) := by rw [hr.out, if_pos this]
      simp -dsimp -implicitDefEqProofs [-getElem?_pos, -List.map_append, -List.map_set, List.getElem?_cons_zero, List.getElem?_cons_succ]
      exact ends_le (by repeat (first | exact OutL.nil _ | refine OutL.at ?_ | refine OutL.nl ?_ | refine OutL.lst (by first | exact fun h => h | exact fun _ => rfl | exact fun h => by cases h) ?_ | refine OutL.ints rfl ⟨rfl, rfl⟩ rfl ?_ | refine OutL.ints rfl ⟨rfl, by simp⟩ (by simp) ?_ | refine OutL.answers rfl ⟨rfl, rfl⟩ rfl ?_ | refine OutL.answers rfl ⟨rfl, by simp⟩ (by simp) ?_ | refine OutL.zones rfl ⟨rfl, rfl⟩ rfl ?_ | refine OutL.zones rfl ⟨rfl, by simp⟩ (by simp) ?_ | refine OutL.lasts rfl ⟨rfl, rfl⟩ rfl ?_ | refine OutL.lasts rfl ⟨rfl, by simp⟩ (by simp) ?_ | refine OutL.hands rfl ⟨rfl, rfl⟩ rfl ?_ | refine OutL.hands rfl ⟨rfl, by simp⟩ (by simp) ?_ | refine OutL.mails rfl ⟨rfl, rfl⟩ rfl ?_ | refine OutL.mails rfl ⟨rfl, by simp⟩ (by simp) ?_ | refine OutL.recs rfl ⟨rfl, rfl⟩ rfl ?_ | refine OutL.recs rfl ⟨rfl, by simp⟩ (by simp) ?_ | refine OutL.bytes rfl ⟨rfl, rfl⟩ rfl ?_ | refine OutL.bytes rfl ⟨rfl, by simp⟩ (by simp) ?_ )) rfl
    · have : ¬ S.isOpen z = false := by simp at h2; simp [S.isOpen]; grind
      obtain rfl : r = (zs.set n (S.shutZ z), 0) := by rw [hr.out, if_neg this]
      clear hr this
      have hg := fun y => get_set_self (y := y) hz
      simp -dsimp -implicitDefEqProofs [-getElem?_pos, -List.map_append, -List.map_set, List.getElem?_cons_zero, List.getElem?_cons_succ, hn, hl.out, hz]
      refine call_CS (CS_inline (typesOk _) Try.func106 (fun _ _ => by kernel_rfl) rfl (by kernel_rfl) (Nat.le_of_ble_eq_true rfl) ?_)
      simp -dsimp -implicitDefEqProofs [-getElem?_pos, -List.map_append, -List.map_set, List.getElem?_cons_zero, List.getElem?_cons_succ, hn, hl.out, hz, hg]
      refine brA_split (fun g => ?_) (fun g => ?_)
      · have e : S.shutZ z = ⟨0, z.d⟩ := by simp at g; simp [S.shutZ, g]
        rw [e]
        simp -dsimp -implicitDefEqProofs [-getElem?_pos, -List.map_append, -List.map_set, List.getElem?_cons_zero, List.getElem?_cons_succ, hn, hl.out, hz, hg]
        exact ends_le (OutL.zones rfl ⟨rfl, rfl⟩ (by simp [hl.out]) (OutL.nil _)) rfl
      · have e : S.shutZ z = ⟨3, z.d⟩ := by simp at g; simp [S.shutZ, g]
        rw [e]
        simp -dsimp -implicitDefEqProofs [-getElem?_pos, -List.map_append, -List.map_set, List.getElem?_cons_zero, List.getElem?_cons_succ, hn, hl.out, hz, hg]
        exact ends_le (OutL.zones rfl ⟨rfl, rfl⟩ (by simp [hl.out]) (OutL.nil _)) rfl
  · refine C_inline [] Try.func50 (fun _ _ => by kernel_rfl) rfl (by kernel_rfl) (by rfl) (by decide) (by rfl) (by rfl) (by rfl) ?_
    simp -dsimp -implicitDefEqProofs [-getElem?_pos, -List.map_append, -List.map_set, List.getElem?_cons_zero, List.getElem?_cons_succ]
    refine call_C (yard_ready_bad zs k h) (by first | rfl | (simp -dsimp -implicitDefEqProofs; done)) (by first | exact Or.inr (by rfl) | exact Or.inl ⟨by rfl, by first | rfl | simp [newNews, newLeaf, I]⟩) (Nat.le_of_ble_eq_true rfl) ?_
    simp -dsimp -implicitDefEqProofs [-getElem?_pos, -List.map_append, -List.map_set, List.getElem?_cons_zero, List.getElem?_cons_succ, h]
    have hr : S.closeZ zs k = ([], S.readyZ zs k) := by unfold S.closeZ; rw [if_pos h]
    rw [hr]
    exact ends_le (by repeat (first | exact OutL.nil _ | refine OutL.at ?_ | refine OutL.nl ?_ | refine OutL.lst (by first | exact fun h => h | exact fun _ => rfl | exact fun h => by cases h) ?_ | refine OutL.ints rfl ⟨rfl, rfl⟩ rfl ?_ | refine OutL.ints rfl ⟨rfl, by simp⟩ (by simp) ?_ | refine OutL.answers rfl ⟨rfl, rfl⟩ rfl ?_ | refine OutL.answers rfl ⟨rfl, by simp⟩ (by simp) ?_ | refine OutL.zones rfl ⟨rfl, rfl⟩ rfl ?_ | refine OutL.zones rfl ⟨rfl, by simp⟩ (by simp) ?_ | refine OutL.lasts rfl ⟨rfl, rfl⟩ rfl ?_ | refine OutL.lasts rfl ⟨rfl, by simp⟩ (by simp) ?_ | refine OutL.hands rfl ⟨rfl, rfl⟩ rfl ?_ | refine OutL.hands rfl ⟨rfl, by simp⟩ (by simp) ?_ | refine OutL.mails rfl ⟨rfl, rfl⟩ rfl ?_ | refine OutL.mails rfl ⟨rfl, by simp⟩ (by simp) ?_ | refine OutL.recs rfl ⟨rfl, rfl⟩ rfl ?_ | refine OutL.recs rfl ⟨rfl, by simp⟩ (by simp) ?_ | refine OutL.bytes rfl ⟨rfl, rfl⟩ rfl ?_ | refine OutL.bytes rfl ⟨rfl, by simp⟩ (by simp) ?_ )) rfl

end Go.Proofs.Ytdjdjnmccphbjaa.E
