/- PlainZone: laws on zones, in plain Lean. -/
import Derived.Test.YthliojembgdjjaaSpec
namespace Go.Proofs.Ythliojembgdjjaa.S

theorem check_parts {z : Zone} (h : checkZone z = 0) : 0 ≤ z.st ∧ z.st ≤ 4 ∧ z.d.length ≤ 8 ∧ z.d.any bad = false ∧ ¬ ((z.st = 0 ∧ 0 < z.d.length) ∨ (z.d.length = 8 ∧ z.st ≠ 4) ∨ (z.st = 3 ∧ z.d.length = 0)) := by
  unfold checkZone at h
  split at h
  · cases h
  · rename_i h1
    split at h
    · cases h
    · rename_i h2
      split at h
      · cases h
      · rename_i h3
        split at h
        · cases h
        · rename_i h4
          exact ⟨by omega, by omega, by omega, by simpa using h3, h4⟩

theorem check_mk {z : Zone} (h0 : 0 ≤ z.st) (h1 : z.st ≤ 4) (h2 : z.d.length ≤ 8) (h3 : z.d.any bad = false) (h4 : ¬ ((z.st = 0 ∧ 0 < z.d.length) ∨ (z.d.length = 8 ∧ z.st ≠ 4) ∨ (z.st = 3 ∧ z.d.length = 0))) : checkZone z = 0 := by
  unfold checkZone
  rw [if_neg (by omega), if_neg (by omega), if_neg (by simp [h3]), if_neg h4]

theorem check_range (z : Zone) : checkZone z = 0 ∨ checkZone z = 2 ∨ checkZone z = 3 ∨ checkZone z = 4 := by
  unfold checkZone
  split
  · simp
  · split
    · simp
    · split
      · simp
      · split <;> simp

/-- what a write that went well says -/
theorem write_parts {z : Zone} {l : List Int} (h : (writeZone z l).2 = 0) :
    checkZone z = 0 ∧ 1 ≤ l.length ∧ l.length ≤ 8 ∧ l.any bad = false ∧ z.st ≠ 4 ∧ z.d.length + l.length ≤ 8 ∧
      (writeZone z l).1 = ⟨if z.d.length + l.length = 8 then 4 else if z.st = 2 then 2 else 1, z.d ++ l⟩ ∧ checkZone (writeZone z l).1 = 0 := by
  unfold writeZone at h
  split at h
  · rename_i h1; simp at h; exact absurd h h1
  · rename_i h1
    split at h
    · simp at h
    · rename_i h2
      split at h
      · simp at h
      · rename_i h3
        split at h
        · simp at h
        · rename_i h4
          have hc : checkZone z = 0 := Classical.not_not.1 h1
          have e : (writeZone z l).1 = ⟨if z.d.length + l.length = 8 then 4 else if z.st = 2 then 2 else 1, z.d ++ l⟩ := by
            unfold writeZone
            rw [if_neg h1, if_neg h2, if_neg h3, if_neg h4]
          obtain ⟨p0, p1, p2, p3, p4⟩ := check_parts hc
          have h3' : l.any bad = false := by simpa using h3
          refine ⟨hc, by omega, by omega, h3', by omega, by omega, e, ?_⟩
          rw [e]
          apply check_mk
          · dsimp only; split
            · omega
            · split <;> omega
          · dsimp only; split
            · omega
            · split <;> omega
          · simp only [List.length_append]; omega
          · simp only [List.any_append, p3, h3', Bool.or_false]
          · simp only [List.length_append]
            rintro (⟨a, b⟩ | ⟨a, b⟩ | ⟨a, b⟩)
            · split at a
              · omega
              · split at a <;> omega
            · rw [if_pos a] at b; exact b rfl
            · omega

theorem write_read {z : Zone} {l : List Int} (h : (writeZone z l).2 = 0) : readZone (writeZone z l).1 z.d.length l.length = (l, 0) := by
  obtain ⟨hc, h1, h2, h3, h4, h5, e, hk⟩ := write_parts h
  unfold readZone
  rw [if_neg (by simpa using hk)]
  rw [e]
  simp only [List.length_append]
  rw [if_neg (by omega), if_neg (by omega)]
  simp

theorem read_old {z : Zone} {k n : Int} (hc : checkZone z = 0) (h0 : 0 ≤ k) (h1 : 0 ≤ n) (h2 : k + n ≤ z.d.length) : readZone z k n = ((z.d.drop k.toNat).take n.toNat, 0) := by
  obtain ⟨p0, p1, p2, p3, p4⟩ := check_parts hc
  unfold readZone
  rw [if_neg (by simpa using hc), if_neg (by omega), if_neg (by omega)]

theorem read_new {z : Zone} {l : List Int} {k n : Int} (h : (writeZone z l).2 = 0) (h0 : 0 ≤ k) (h1 : 0 ≤ n) (h2 : k + n ≤ z.d.length) :
    readZone (writeZone z l).1 k n = ((z.d.drop k.toNat).take n.toNat, 0) := by
  obtain ⟨hc, g1, g2, g3, g4, g5, e, hk⟩ := write_parts h
  rw [read_old hk h0 h1 (by rw [e]; simp only [List.length_append]; omega), e]
  congr 1
  dsimp only
  rw [List.drop_append_of_le_length (by omega), List.take_append_of_le_length (by rw [List.length_drop]; omega)]

theorem at_range (k n : Int) (hn : 0 < n) : 0 ≤ at_ k n ∧ at_ k n < n := by
  have h1 := Int.tmod_lt_of_pos k hn
  have h2 : -n < k.tmod n := by
    rcases Int.le_total 0 k with h | h
    · have := Int.tmod_nonneg n h; omega
    · have e := Int.neg_tmod (-k) n
      have := Int.tmod_lt_of_pos (-k) hn
      rw [Int.neg_neg] at e
      omega
  unfold at_
  split <;> omega

/-- in two parts as in one -/
theorem write_two {z : Zone} {l : List Int} (h : (writeZone z l).2 = 0) {k : Nat} (h1 : 1 ≤ k) (h2 : k < l.length) :
    (writeZone z (l.take k)).2 = 0 ∧ writeZone (writeZone z (l.take k)).1 (l.drop k) = writeZone z l := by
  obtain ⟨hc, g1, g2, g3, g4, g5, e, hk⟩ := write_parts h
  obtain ⟨p0, p1, p2, p3, p4⟩ := check_parts hc
  have t1 : (l.take k).any bad = false := by
    rw [List.any_eq_false] at g3 ⊢
    exact fun x hx => g3 x (List.mem_of_mem_take hx)
  have t2 : (l.drop k).any bad = false := by
    rw [List.any_eq_false] at g3 ⊢
    exact fun x hx => g3 x (List.mem_of_mem_drop hx)
  have l1 : (l.take k).length = k := by simp; omega
  have l2 : (l.drop k).length = l.length - k := by simp
  have w1 : writeZone z (l.take k) = (⟨if z.st = 2 then 2 else 1, z.d ++ l.take k⟩, 0) := by
    unfold writeZone
    rw [if_neg (by simpa using hc), l1, if_neg (by omega), if_neg (by simp [t1]), if_neg (by omega), if_neg (by omega)]
  have ha : (writeZone z (l.take k)).2 = 0 := by rw [w1]
  obtain ⟨_, _, _, _, _, _, _, hk1⟩ := write_parts ha
  refine ⟨ha, ?_⟩
  have w3 : writeZone z l = ((writeZone z l).1, 0) := by rw [← h]
  rw [w3, e]
  rw [w1] at hk1 ⊢
  unfold writeZone
  rw [if_neg (by simpa using hk1)]
  simp only [l2, List.length_append, l1]
  rw [if_neg (by omega), if_neg (by simp [t2])]
  have q : ¬ ((if z.st = 2 then (2 : Int) else 1) = 4 ∨ 8 < z.d.length + k + (l.length - k)) := by
    intro c
    rcases c with c | c
    · split at c <;> cases c
    · omega
  rw [if_neg q]
  have e1 : z.d.length + k + (l.length - k) = z.d.length + l.length := by omega
  rw [e1, List.append_assoc, List.take_append_drop]
  congr 2
  split
  · rfl
  · split
    · rfl
    · split
      · rename_i h; cases h
      · rfl

end Go.Proofs.Ythliojembgdjjaa.S
