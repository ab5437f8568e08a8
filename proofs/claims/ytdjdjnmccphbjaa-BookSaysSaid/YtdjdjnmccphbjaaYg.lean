/- Yg: plain laws of zones of which few may be open. -/
import Derived.Test.YtdjdjnmccphbjaaYf
namespace Go.Proofs.Ytdjdjnmccphbjaa.E
open Go.RowKit Go.Proofs
set_option linter.unusedSimpArgs false
set_option linter.unusedVariables false

theorem countP_set {α : Type} {p : α → Bool} : ∀ {xs : List α} {n : Nat} {x : α} (y : α), xs[n]? = some x → (xs.set n y).countP p + (if p x = true then 1 else 0) = xs.countP p + (if p y = true then 1 else 0)
  | [], n, x, y, h => by simp at h
  | z :: xs, 0, x, y, h => by
    cases h
    simp only [List.set_cons_zero, List.countP_cons]
    omega
  | z :: xs, n + 1, x, y, h => by
    have ih := countP_set (p := p) (xs := xs) (n := n) y (by simpa using h)
    simp only [List.set_cons_succ, List.countP_cons]
    omega

theorem checkZones_of {zs : List S.Zone} (h1 : zs.length = 4) (h2 : ∀ z, z ∈ zs → S.checkZone z = 0) (h3 : zs.countP S.isOpen ≤ 2) (h4 : zs.countP S.isActive ≤ 3) : S.checkZones zs = 0 := by
  unfold S.checkZones
  rw [if_neg (by omega), firstBad_none (fun j x _ hx => h2 x (List.mem_of_getElem? hx)), if_neg (by simp), if_neg (by omega)]

theorem mem_set {α : Type} {xs : List α} {n : Nat} {x y : α} (h : x ∈ xs.set n y) : x ∈ xs ∨ x = y := List.mem_or_eq_of_mem_set h

/-- a zone is changed, and is no more open than it was -/
theorem checkZones_set {zs : List S.Zone} {n : Nat} {z y : S.Zone} (h : S.checkZones zs = 0) (hz : zs[n]? = some z) (hy : S.checkZone y = 0) (ho : S.isOpen y = true → S.isOpen z = true) (ha : S.isActive y = true → S.isActive z = true) : S.checkZones (zs.set n y) = 0 := by
  obtain ⟨h1, h2, h3, h4⟩ := checkZones_parts h
  have e1 := countP_set (p := S.isOpen) y hz
  have e2 := countP_set (p := S.isActive) y hz
  refine checkZones_of (by simpa using h1) (fun x hx => ?_) ?_ ?_
  · rcases mem_set hx with g | g
    · exact h2 x g
    · rw [g]; exact hy
  · by_cases g : S.isOpen y = true
    · rw [if_pos g, if_pos (ho g)] at e1; omega
    · rw [if_neg g] at e1; omega
  · by_cases g : S.isActive y = true
    · rw [if_pos g, if_pos (ha g)] at e2; omega
    · rw [if_neg g] at e2; omega

theorem room_cases2 {zs : List S.Zone} {n : Nat} {z : S.Zone} (hz : zs[n]? = some z) (h0 : (S.room zs n).2 = 0) :
    (S.room zs n = (zs, 0) ∧ (S.isOpen z = true ∨ (S.isOpen z = false ∧ z.st ≠ 4 ∧ ¬ (z.st = 0 ∧ zs.countP S.isActive = 3) ∧ zs.countP S.isOpen < 2))) ∨
    ∃ (k : Nat) (x : S.Zone), k ≠ n ∧ zs[k]? = some x ∧ x.st = 1 ∧ S.isOpen z = false ∧ z.st ≠ 4 ∧ ¬ (z.st = 0 ∧ zs.countP S.isActive = 3) ∧ S.room zs n = (zs.set k (S.shutZ x), 0) := by
  unfold S.room at h0 ⊢
  simp only [List.getD, hz, Option.getD_some] at h0 ⊢
  by_cases h1 : S.isOpen z = true
  · rw [if_pos h1]; exact Or.inl ⟨rfl, Or.inl h1⟩
  rw [if_neg h1] at h0 ⊢
  by_cases h2 : z.st = 4
  · rw [if_pos h2] at h0; cases h0
  rw [if_neg h2] at h0 ⊢
  by_cases h3 : z.st = 0 ∧ zs.countP S.isActive = 3
  · rw [if_pos h3] at h0; cases h0
  rw [if_neg h3] at h0 ⊢
  by_cases h4 : zs.countP S.isOpen < 2
  · rw [if_pos h4]; exact Or.inl ⟨rfl, Or.inr ⟨by simpa using h1, h2, h3, h4⟩⟩
  rw [if_neg h4] at h0 ⊢
  rcases idx_spec (p := fun z : S.Zone => decide (z.st = 1)) zs with e | ⟨k, x, e, hx, hpx⟩
  · rw [e, if_pos (by decide)] at h0; cases h0
  · rw [e, if_neg (by omega)]
    refine Or.inr ⟨k, x, ?_, hx, by simpa using hpx, by simpa using h1, h2, h3, by simp [hx]⟩
    rintro rfl
    rw [hz] at hx
    cases hx
    apply h1
    simp [S.isOpen]
    left; simpa using hpx

theorem shut_ok {z : S.Zone} (h : S.checkZone z = 0) (ho : S.isOpen z = true) : S.checkZone (S.shutZ z) = 0 ∧ S.isOpen (S.shutZ z) = false := by
  obtain ⟨st, d⟩ := z
  have hl := checkZone_len h
  unfold S.checkZone at h
  simp [S.isOpen] at ho
  split at h; · cases h
  split at h; · cases h
  split at h; · cases h
  rename_i h3
  split at h; · cases h
  rename_i h4
  simp only at h4 hl h3
  constructor
  · unfold S.checkZone S.shutZ
    by_cases g : d.length = 0
    · simp [g]
      have : d = [] := List.eq_nil_of_length_eq_zero g
      subst this; simp
    · simp only [g, if_false]
      rw [if_neg (by simp), if_neg (by simp; omega), if_neg h3, if_neg (by simp; omega)]
  · unfold S.isOpen S.shutZ
    by_cases g : d.length = 0 <;> simp [g]

/-- room was made, and a zone is open then -/
theorem room_ok {zs : List S.Zone} {n : Nat} {z y : S.Zone} (h : S.checkZones zs = 0) (hz : zs[n]? = some z) (h0 : (S.room zs n).2 = 0) (hy : S.checkZone y = 0) (hya : S.isActive y = true → S.isOpen y = true) : S.checkZones ((S.room zs n).1.set n y) = 0 := by
  obtain ⟨h1, h2, h3, h4⟩ := checkZones_parts h
  have hoa : ∀ q : S.Zone, S.isOpen q = true → S.isActive q = true := fun q hq => by simp [S.isOpen] at hq; simp [S.isActive]; omega
  have hzc := h2 z (List.mem_of_getElem? hz)
  have hst : 0 ≤ z.st ∧ z.st ≤ 4 := by
    unfold S.checkZone at hzc
    split at hzc
    · cases hzc
    · omega
  rcases room_cases2 hz h0 with ⟨e, c | ⟨c1, c2, c3, c4⟩⟩ | ⟨k, x, hk, hx, hx1, c1, c2, c3, e⟩
  · rw [e]
    exact checkZones_set h hz hy (fun _ => c) (fun _ => hoa z c)
  · rw [e]
    have e1 := countP_set (p := S.isOpen) y hz
    have e2 := countP_set (p := S.isActive) y hz
    refine checkZones_of (by simpa using h1) (fun x hx => ?_) ?_ ?_
    · rcases mem_set hx with g | g
      · exact h2 x g
      · rw [g]; exact hy
    · show (zs.set n y).countP S.isOpen ≤ 2
      rw [if_neg (by simp [c1])] at e1
      split at e1 <;> omega
    · show (zs.set n y).countP S.isActive ≤ 3
      by_cases g : S.isActive z = true
      · rw [if_pos g] at e2; split at e2 <;> omega
      · rw [if_neg g] at e2
        have : z.st = 0 := by simp [S.isActive] at g; omega
        have : zs.countP S.isActive ≠ 3 := fun q => c3 ⟨this, q⟩
        split at e2 <;> omega
  · rw [e]
    have hxo : S.isOpen x = true := by simp [S.isOpen, hx1]
    obtain ⟨s1, s2⟩ := shut_ok (h2 x (List.mem_of_getElem? hx)) hxo
    have hz' : (zs.set k (S.shutZ x))[n]? = some z := by rw [List.getElem?_set_ne hk]; exact hz
    have e1 := countP_set (p := S.isOpen) y hz'
    have e2 := countP_set (p := S.isActive) y hz'
    have e3 := countP_set (p := S.isOpen) (S.shutZ x) hx
    have e4 := countP_set (p := S.isActive) (S.shutZ x) hx
    rw [if_pos hxo, if_neg (by simp [s2])] at e3
    rw [if_pos (hoa x hxo)] at e4
    refine checkZones_of (by simpa using h1) (fun q hq => ?_) ?_ ?_
    · rcases mem_set hq with g | g
      · rcases mem_set g with g | g
        · exact h2 q g
        · rw [g]; exact s1
      · rw [g]; exact hy
    · show ((zs.set k (S.shutZ x)).set n y).countP S.isOpen ≤ 2
      rw [if_neg (by simp [c1])] at e1
      split at e1 <;> omega
    · show ((zs.set k (S.shutZ x)).set n y).countP S.isActive ≤ 3
      by_cases g : S.isActive z = true
      · rw [if_pos g] at e2; split at e2 <;> split at e4 <;> omega
      · rw [if_neg g] at e2
        have : z.st = 0 := by simp [S.isActive] at g; omega
        have : zs.countP S.isActive ≠ 3 := fun q => c3 ⟨this, q⟩
        split at e2 <;> split at e4 <;> omega

end Go.Proofs.Ytdjdjnmccphbjaa.E
