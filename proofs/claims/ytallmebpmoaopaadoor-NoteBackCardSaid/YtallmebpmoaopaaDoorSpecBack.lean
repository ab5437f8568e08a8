
/- SpecBack: what is printed is read, what is read is printed as it was: commands. -/
import Derived.Test.YtallmebpmoaopaaDoorSpecCmd
namespace Go.Proofs.YtallmebpmoaopaaDoor.S
open Go

theorem itoa_no_blank {n : Int} (h : 0 ≤ n ∧ n ≤ 999) : (32 : UInt8) ∉ Lib.itoa n := by
  intro hm
  have := (itoa_facts h.1 (by omega)).2.1 32 hm
  exact absurd this.1 (by decide)
theorem numsOf_itoa : ∀ {ns : List Int}, (∀ n, n ∈ ns → 0 ≤ n ∧ n ≤ 999) → numsOf (ns.map Lib.itoa) = some ns
  | [], _ => rfl
  | n :: ns, h => by
    have h1 := h n (by simp)
    rw [List.map_cons, numsOf, numOf_itoa h1.1 (by omega), numsOf_itoa (fun m hm => h m (by simp [hm]))]
    rfl
theorem numsOf_texts : ∀ {ls : List (List UInt8)} {ns : List Int}, numsOf ls = some ns → ls = ns.map Lib.itoa
  | [], ns, h => by cases h; rfl
  | l :: ls, ns, h => by
    unfold numsOf at h
    split at h
    · cases h
    · rename_i n hn
      cases hr : numsOf ls with
      | none => rw [hr] at h; cases h
      | some x =>
        rw [hr] at h
        cases h
        rw [List.map_cons, ← numsOf_texts hr, ← (numOf_some hn).1]
theorem idx_word : ∀ K : Fin 13, 1 ≤ K.val → idxOf (wordOf (K.val : Int)) words = K.val ∧ (wordOf (K.val : Int)).length ≤ 8 ∧ (32 : UInt8) ∉ wordOf (K.val : Int) := by decide
theorem idx_words {k : Int} (h1 : 1 ≤ k) (h2 : k ≤ 12) : idxOf (wordOf k) words = k ∧ (wordOf k).length ≤ 8 ∧ (32 : UInt8) ∉ wordOf k := by
  obtain ⟨K, rfl⟩ : ∃ K : Nat, k = K := ⟨k.toNat, by omega⟩
  exact idx_word ⟨K, by omega⟩ (by simp; omega)
theorem word_idx : ∀ K : Fin 13, words[K.val]? = some (wordOf (K.val : Int)) := by decide
theorem heads_in {c : Cmd} (hz : 0 ≤ c.z ∧ c.z ≤ 999) (hp : 0 ≤ c.pos ∧ c.pos ≤ 999) (hn : 0 ≤ c.n ∧ c.n ≤ 999) : ∀ n, n ∈ heads c → 0 ≤ n ∧ n ≤ 999 := by
  intro n h
  unfold heads at h
  simp only [List.mem_append] at h
  rcases h with (h | h) | h <;> (split at h) <;> simp at h <;> subst h <;> assumption
theorem heads_len (c : Cmd) : (heads c).length ≤ 3 := by
  unfold heads
  simp only [List.length_append]
  split <;> split <;> split <;> simp

theorem cmdOf_heads {c : Cmd} (h : misused c = false) : cmdOf c.kind (heads c ++ c.d) = some c := by
  obtain ⟨k, z, n, p, d⟩ := c
  unfold misused at h
  unfold cmdOf heads
  simp only at h ⊢
  generalize uZ k = b1 at *
  generalize uA k = b2 at *
  generalize uN k = b3 at *
  generalize uD k = b4 at *
  simp only [Bool.or_eq_false_iff, Bool.and_eq_false_iff, Bool.not_eq_false', decide_eq_true_eq] at h
  obtain ⟨⟨⟨h1, h2⟩, h3⟩, h4⟩ := h
  have h4' : b4 = decide (0 < d.length) := by simpa using h4
  subst h4'
  cases b1 <;> cases b2 <;> cases b3 <;> simp_all [takeIf]
theorem heads_cmdOf {k : Int} {ns : List Int} {c : Cmd} (h : cmdOf k ns = some c) : c.kind = k ∧ heads c ++ c.d = ns := by
  unfold cmdOf at h
  unfold heads
  cases h1 : takeIf (uZ k) ns with
  | none => rw [h1] at h; cases h
  | some a =>
    rw [h1] at h
    simp only [Option.bind_some] at h
    cases h2 : takeIf (uA k) a.2 with
    | none => rw [h2] at h; cases h
    | some b =>
      rw [h2] at h
      simp only [Option.bind_some] at h
      cases h3 : takeIf (uN k) b.2 with
      | none => rw [h3] at h; cases h
      | some e =>
        rw [h3] at h
        simp only [Option.bind_some] at h
        split at h
        · cases h
          refine ⟨rfl, ?_⟩
          simp only
          have t : ∀ {b : Bool} {l : List Int} {x : Int × List Int}, takeIf b l = some x → (if b = true then [x.1] else []) ++ x.2 = l := by
            intro b l x hx
            cases b with
            | false => cases hx; rfl
            | true =>
              cases l with
              | nil => cases hx
              | cons y l => cases hx; rfl
          rw [← t h1, ← t h2, ← t h3]
          simp [List.append_assoc]
        · cases h

theorem cmdText_pieces {c : Cmd} (h : checkCmd c = 0) : pieces 32 (cmdText c) = wordOf c.kind :: (heads c ++ c.d).map Lib.itoa := by
  obtain ⟨k1, k12, hm, hd, hz, hp, hn, hb⟩ := checkCmd_ok h
  unfold cmdText
  rw [withNums_joined]
  refine pieces_joined (by simp) fun x hx => ?_
  simp only [List.mem_cons, List.mem_map, List.mem_append] at hx
  rcases hx with rfl | ⟨n, hn' | hn', rfl⟩
  · exact (idx_words k1 k12).2.2
  · exact itoa_no_blank (heads_in hz hp hn n hn')
  · exact itoa_no_blank (hb n hn')
theorem withNums_len (b : Nat) : ∀ (ns : List Int) (s : List UInt8), (∀ n, n ∈ ns → (Lib.itoa n).length ≤ b) → (withNums s ns).length ≤ s.length + ns.length * (b + 1)
  | [], s, _ => by simp [withNums]
  | n :: ns, s, h => by
    rw [withNums]
    have h1 := withNums_len b ns (s ++ 32 :: Lib.itoa n) (fun m hm => h m (by simp [hm]))
    have h2 := h n (by simp)
    simp only [List.length_append, List.length_cons] at h1 ⊢
    rw [Nat.add_mul]
    omega
theorem cmdText_len {c : Cmd} (h : checkCmd c = 0) : (cmdText c).length ≤ 52 := by
  obtain ⟨k1, k12, hm, hd, hz, hp, hn, hb⟩ := checkCmd_ok h
  have h1 := withNums_len 3 (heads c ++ c.d) (wordOf c.kind) (fun n hn' => by
    have : 0 ≤ n ∧ n ≤ 999 := by
      rcases List.mem_append.1 hn' with g | g
      · exact heads_in hz hp hn n g
      · exact hb n g
    exact (itoa_facts this.1 (by omega)).2.2.2)
  have h2 := (idx_words k1 k12).2.1
  have h3 := heads_len c
  have h4 : (heads c ++ c.d).length * (3 + 1) ≤ 11 * 4 := Nat.mul_le_mul (by simp; omega) (by omega)
  unfold cmdText
  omega
/-- what is printed is read -/
theorem parse_text {c : Cmd} (h : checkCmd c = 0) : cmdParse (cmdText c) = (c, 0) := by
  obtain ⟨k1, k12, hm, hd, hz, hp, hn, hb⟩ := checkCmd_ok h
  have hl := cmdText_len h
  have hi := (idx_words k1 k12).1
  unfold cmdParse cmdRead
  rw [if_neg (by omega), cmdText_pieces h, cmdWords, hi, if_neg (by omega), numsOf_itoa (fun n hn' => by
    rcases List.mem_append.1 hn' with g | g
    · exact heads_in hz hp hn n g
    · exact hb n g)]
  simp only [cmdOf_heads hm, h]
  simp
/-- what is read is printed as it was -/
theorem text_parse {l : List UInt8} {c : Cmd} (h : cmdParse l = (c, 0)) : checkCmd c = 0 ∧ cmdText c = l := by
  unfold cmdParse at h
  split at h
  · cases h
  · unfold cmdRead at h
    have hj := joined_pieces 32 l
    cases hp : pieces 32 l with
    | nil => exact absurd hp (pieces_ne _ _)
    | cons w ts =>
      rw [hp] at h hj
      rw [cmdWords] at h
      split at h
      · cases h
      · rename_i hk
        split at h
        · cases h
        · rename_i ns hns
          split at h
          · cases h
          · rename_i c' hc
            split at h
            · rename_i hne; simp only [Prod.mk.injEq] at h; exact absurd h.2 hne
            · rename_i hz
              simp only [Prod.mk.injEq, and_true] at h
              subst h
              have hz' : checkCmd c' = 0 := by simpa using hz
              refine ⟨hz', ?_⟩
              obtain ⟨e1, e2⟩ := heads_cmdOf hc
              have hrange := idxOf_range w words
              have h13 : (words.length : Int) = 13 := rfl
              obtain ⟨K, hK⟩ : ∃ K : Nat, idxOf w words = K := ⟨(idxOf w words).toNat, by omega⟩
              have hw := idxOf_at hK
              have hw2 := word_idx ⟨K, by omega⟩
              simp only at hw2
              rw [hw] at hw2
              unfold cmdText
              rw [withNums_joined, e1, e2, hK, ← numsOf_texts hns, ← Option.some.inj hw2]
              exact hj
theorem text_inj {c d : Cmd} (hc : checkCmd c = 0) (hd : checkCmd d = 0) : cmdText c = cmdText d ↔ c = d := by
  refine ⟨fun h => ?_, fun h => by rw [h]⟩
  have h1 := parse_text hc
  rw [h, parse_text hd] at h1
  simp only [Prod.mk.injEq, and_true] at h1
  exact h1.symm

end Go.Proofs.YtallmebpmoaopaaDoor.S
