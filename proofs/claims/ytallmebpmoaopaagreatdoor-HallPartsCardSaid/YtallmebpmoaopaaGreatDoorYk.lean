
/- Yk: law.YardOthers. -/
import Derived.Test.YtallmebpmoaopaaGreatDoorY2
namespace Go.Proofs.YtallmebpmoaopaaGreatDoor.E
open Go.RowKit Go.Proofs
set_option maxRecDepth 100000
set_option maxHeartbeats 1000000
set_option linter.unusedSimpArgs false
set_option linter.unusedVariables false

/-- what a writing or a holding of zone n leaves -/
def OthersZ (zs m : List S.Zone) (n : Nat) (b : Bool) : Prop :=
  zs.length = 4 ∧ m.length = 4 ∧ n < 4 ∧ (∃ w, m[n]? = some w ∧ (w.st = 2 ∨ (b = false ∧ (w.st = 1 ∨ w.st = 4)))) ∧
    ∃ K : Nat, ∀ (i : Nat) (x y : S.Zone), zs[i]? = some x → m[i]? = some y → i ≠ n → x ≠ y → i = K ∧ x.st = 1 ∧ y.st ≠ 1 ∧ y.st ≠ 2 ∧ x.d = y.d

theorem others_of {zs : List S.Zone} {n : Nat} {z w : S.Zone} {b : Bool} (hl : zs.length = 4) (hn : n < 4) (hz : zs[n]? = some z) (hw : w.st = 2 ∨ (b = false ∧ (w.st = 1 ∨ w.st = 4))) : OthersZ zs ((S.room zs n).1.set n w) n b := by
  obtain ⟨g1, g2⟩ := room_get hz
  refine ⟨hl, by simp [g2, hl], hn, ⟨w, by simp [g2, hl, hn], hw⟩, ?_⟩
  rcases room_cases hz with e | e | ⟨k, u, hk, hu, hu1, -, -, -, e⟩
  · exact ⟨0, fun i x y hx hy hi hne => by
      rw [e, List.getElem?_set_ne (Ne.symm hi)] at hy; simp only at hy; rw [hx] at hy; cases hy; exact absurd rfl hne⟩
  · exact ⟨0, fun i x y hx hy hi hne => by
      rw [e, List.getElem?_set_ne (Ne.symm hi)] at hy; simp only at hy; rw [hx] at hy; cases hy; exact absurd rfl hne⟩
  · refine ⟨k, fun i x y hx hy hi hne => ?_⟩
    rw [e, List.getElem?_set_ne (Ne.symm hi)] at hy
    simp only at hy
    by_cases hik : i = k
    · subst hik
      rw [get_set_self hu] at hy
      rw [hu] at hx
      cases hx; cases hy
      refine ⟨rfl, hu1, ?_, ?_, rfl⟩ <;> (unfold S.shutZ; simp only; split <;> omega)
    · rw [List.getElem?_set_ne (Ne.symm hik), hx] at hy
      cases hy; exact absurd rfl hne

theorem hold_others {zs : List S.Zone} {n : Nat} (h : (S.holdZ zs n).2 = 0) : OthersZ zs (S.holdZ zs n).1 n true := by
  unfold S.holdZ at h ⊢
  by_cases h1 : S.readyZ zs n ≠ 0
  · rw [if_pos h1] at h; exact absurd h h1
  rw [if_neg h1] at h ⊢
  obtain ⟨hc, j, z, hj, hn, hz⟩ := ready_parts (by omega : S.readyZ zs n = 0)
  have hj' : j = n := by omega
  subst hj'
  simp only [Int.toNat_natCast] at h ⊢
  by_cases h2 : (S.room zs j).2 ≠ 0
  · rw [if_pos h2] at h; exact absurd h h2
  rw [if_neg h2]
  exact others_of (checkZones_parts hc).1 hn hz (.inl rfl)

theorem write_others {zs : List S.Zone} {n : Nat} {d : List Int} (h : (S.writeZ zs n d).2.2 = 0) : OthersZ zs (S.writeZ zs n d).1 n false := by
  unfold S.writeZ at h ⊢
  by_cases h1 : S.readyZ zs n ≠ 0
  · rw [if_pos h1] at h; exact absurd h h1
  rw [if_neg h1] at h ⊢
  obtain ⟨hc, j, z, hj, hn, hz⟩ := ready_parts (by omega : S.readyZ zs n = 0)
  have hj' : j = n := by omega
  subst hj'
  simp only [Int.toNat_natCast] at h ⊢
  by_cases h3 : (S.writeZone (zs.getD j S.Zone.zero) d).2 ≠ 0
  · rw [if_pos h3] at h; exact absurd h h3
  rw [if_neg h3] at h ⊢
  generalize zs.getD j S.Zone.zero = q at *
  by_cases h2 : (S.room zs j).2 ≠ 0
  · rw [if_pos h2] at h; exact absurd h h2
  rw [if_neg h2]
  refine others_of (checkZones_parts hc).1 hn hz ?_
  unfold S.writeZone at h3 ⊢
  split at h3
  · simp_all
  split at h3
  · simp_all
  split at h3
  · simp_all
  split at h3
  · simp_all
  rename_i a1 a2 a3 a4
  rw [if_neg a1, if_neg a2, if_neg a3, if_neg a4]
  by_cases b1 : q.d.length + d.length = 8
  · simp [b1]
  by_cases b2 : q.st = 2
  · simp [b1, b2]
  · simp [b1, b2]

end Go.Proofs.YtallmebpmoaopaaGreatDoor.E
