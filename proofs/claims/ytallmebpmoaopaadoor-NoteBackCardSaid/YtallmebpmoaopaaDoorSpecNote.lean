
/- SpecNote: records as texts, in plain Lean; no program is named here. -/
import Derived.Test.YtallmebpmoaopaaDoorSpecBack
import Derived.Test.YtallmebpmoaopaaDoorSp
namespace Go.Proofs.YtallmebpmoaopaaDoor.S
open Go

/-- the number that a text spells, and whether it is written so -/
def numP (l : List UInt8) : Int × Bool := match Lib.atoiAll l with
  | .ok v => (v, decide (Lib.itoa v = l))
  | .range => (Lib.atoiSat l, false)
  | _ => (0, false)
theorem numP_true {l : List UInt8} {v : Int} (h : numP l = (v, true)) : l = Lib.itoa v := by
  unfold numP at h
  split at h
  · simp only [Prod.mk.injEq, decide_eq_true_eq] at h
    obtain ⟨rfl, h⟩ := h
    exact h.symm
  · cases h
  · cases h
theorem numP_itoa {n : Int} (h0 : 0 ≤ n) (h1 : n < 1000) : numP (Lib.itoa n) = (n, true) := by
  unfold numP
  rw [(itoa_facts h0 h1).1]
  simp

/-! parting -/
theorem cut_true {l sep : List UInt8} {x y : List UInt8} (h : Lib.cut l sep = (x, y, true)) : l = x ++ sep ++ y := by
  unfold Lib.cut at h
  split at h
  · rename_i h0
    simp only [Prod.mk.injEq, and_true] at h
    obtain ⟨rfl, rfl⟩ := h
    rcases Lib.index_spec l sep with ⟨h1, _⟩ | ⟨i, h1, h2, h3, _⟩
    · omega
    · rw [h1]
      unfold Lib.occAt at h3
      obtain ⟨t, ht⟩ := List.isPrefixOf_iff_prefix.1 h3
      simp only [Int.toNat_natCast]
      have e : l.drop (i + sep.length) = t := by rw [← List.drop_drop, ← ht]; simp
      rw [e, List.append_assoc, ht, List.take_append_drop]
  · cases h
theorem cut_len (l sep : List UInt8) : (Lib.cut l sep).1.length ≤ l.length ∧ (Lib.cut l sep).2.1.length ≤ l.length := by
  unfold Lib.cut
  split
  · simp only [List.length_take, List.length_drop]; omega
  · simp
theorem cut_two {a b : UInt8} {x : List UInt8} (y : List UInt8) (h : a ∉ x) : Lib.cut (x ++ a :: b :: y) [a, b] = (x, y, true) := by
  have hi : Lib.index (x ++ a :: b :: y) [a, b] = x.length := by
    refine Lib.index_first (i := x.length) (by simp) (by simp [Lib.occAt]) fun j hj => ?_
    unfold Lib.occAt
    have e : (x ++ a :: b :: y).drop j = x[j] :: (x ++ a :: b :: y).drop (j + 1) := by
      rw [List.drop_eq_getElem_cons (by simp; omega)]
      simp [List.getElem_append_left hj]
    rw [e]
    have hne : a ≠ x[j] := fun e => h (e ▸ List.getElem_mem hj)
    simp [List.isPrefixOf, hne]
  unfold Lib.cut
  rw [hi, if_pos (by omega)]
  simp

/-! records -/
def recText (r : Rec) : List UInt8 := Lib.itoa r.who ++ 32 :: (Lib.itoa r.seq ++ 58 :: 32 :: cmdText r.c)
def recPrint (r : Rec) : List UInt8 × Int := if checkRec r ≠ 0 then ([], checkRec r) else (recText r, 0)
/-- what two numbers and a text make -/
def recOf (a b : Int) (y : List UInt8) : Rec × Int :=
  if (cmdParse y).2 ≠ 0 then (Rec.zero, (cmdParse y).2)
  else if checkRec ⟨a, b, (cmdParse y).1⟩ ≠ 0 then (Rec.zero, checkRec ⟨a, b, (cmdParse y).1⟩)
  else (⟨a, b, (cmdParse y).1⟩, 0)
def recParse (l : List UInt8) : Rec × Int :=
  if 60000 < l.length then (Rec.zero, 2)
  else if ((Lib.cut l [58, 32]).2.2 && (Lib.cut (Lib.cut l [58, 32]).1 [32]).2.2 && (numP (Lib.cut (Lib.cut l [58, 32]).1 [32]).1).2 && (numP (Lib.cut (Lib.cut l [58, 32]).1 [32]).2.1).2) = false then (Rec.zero, 1)
  else recOf (numP (Lib.cut (Lib.cut l [58, 32]).1 [32]).1).1 (numP (Lib.cut (Lib.cut l [58, 32]).1 [32]).2.1).1 (Lib.cut l [58, 32]).2.1

theorem checkRec_ok {r : Rec} (h : checkRec r = 0) : (0 ≤ r.who ∧ r.who < 3) ∧ (1 ≤ r.seq ∧ r.seq ≤ 40) ∧ checkCmd r.c = 0 := by
  unfold checkRec at h
  split at h
  · cases h
  · exact ⟨by omega, by omega, h⟩
theorem not_digit {b : UInt8} {n : Int} (h0 : 0 ≤ n) (h1 : n < 1000) (hb : b.toNat < 48 ∨ 57 < b.toNat) : b ∉ Lib.itoa n := by
  intro hm
  have := (itoa_facts h0 h1).2.1 b hm
  omega
/-- what is printed is read -/
theorem parse_rec {r : Rec} (h : checkRec r = 0) : recParse (recText r) = (r, 0) := by
  obtain ⟨hw, hs, hc⟩ := checkRec_ok h
  have l1 := (itoa_facts (n := r.who) hw.1 (by omega)).2.2.2
  have l2 := (itoa_facts (n := r.seq) (by omega) (by omega)).2.2.2
  have l3 := cmdText_len hc
  have e : recText r = (Lib.itoa r.who ++ 32 :: Lib.itoa r.seq) ++ 58 :: 32 :: cmdText r.c := by simp [recText]
  have k1 : Lib.cut (recText r) [58, 32] = (Lib.itoa r.who ++ 32 :: Lib.itoa r.seq, cmdText r.c, true) := by
    rw [e]
    refine cut_two _ fun hm => ?_
    rcases List.mem_append.1 hm with g | g
    · exact not_digit hw.1 (by omega) (.inr (by decide)) g
    · rcases List.mem_cons.1 g with g | g
      · exact absurd g (by decide)
      · exact not_digit (by omega) (by omega) (.inr (by decide)) g
  have k2 : Lib.cut (Lib.itoa r.who ++ 32 :: Lib.itoa r.seq) [32] = (Lib.itoa r.who, Lib.itoa r.seq, true) := by
    rw [cut_one, cut1_app _ (not_digit hw.1 (by omega) (.inl (by decide)))]
  unfold recParse
  rw [if_neg (by simp [recText]; omega), k1]
  simp only [k2, numP_itoa hw.1 (by omega : r.who < 1000), numP_itoa (by omega : 0 ≤ r.seq) (by omega), recOf, parse_text hc]
  obtain ⟨w, s, c⟩ := r
  simp [h]
/-- what is read is printed as it was -/
theorem rec_parse {l : List UInt8} {r : Rec} (h : recParse l = (r, 0)) : checkRec r = 0 ∧ recText r = l := by
  unfold recParse at h
  split at h
  · cases h
  · obtain ⟨⟨x, y, b⟩, h1⟩ : ∃ p, Lib.cut l [58, 32] = p := ⟨_, rfl⟩
    rw [h1] at h
    simp only at h
    obtain ⟨⟨u, v, d⟩, h2⟩ : ∃ p, Lib.cut x [32] = p := ⟨_, rfl⟩
    rw [h2] at h
    simp only at h
    obtain ⟨⟨m, s⟩, h3⟩ : ∃ p, numP u = p := ⟨_, rfl⟩
    obtain ⟨⟨n, t⟩, h4⟩ : ∃ p, numP v = p := ⟨_, rfl⟩
    rw [h3, h4] at h
    simp only at h
    split at h
    · cases h
    · rename_i hb
      simp only [Bool.not_eq_false, Bool.and_eq_true] at hb
      obtain ⟨⟨⟨rfl, rfl⟩, rfl⟩, rfl⟩ := hb
      unfold recOf at h
      split at h
      · rename_i hne; simp only [Prod.mk.injEq] at h; exact absurd h.2 hne
      · rename_i hp
        split at h
        · rename_i hne; simp only [Prod.mk.injEq] at h; exact absurd h.2 hne
        · rename_i hr
          simp only [Prod.mk.injEq, and_true] at h
          subst h
          obtain ⟨g1, g2⟩ := text_parse (l := y) (c := (cmdParse y).1) (by rw [← Decidable.not_not.1 hp])
          refine ⟨Decidable.not_not.1 hr, ?_⟩
          unfold recText
          simp only
          rw [g2, ← numP_true h3, ← numP_true h4, cut_true h1, cut_true h2]
          simp
theorem rec_inj {c d : Rec} (hc : checkRec c = 0) (hd : checkRec d = 0) : recText c = recText d ↔ c = d := by
  refine ⟨fun h => ?_, fun h => by rw [h]⟩
  have h1 := parse_rec hc
  rw [h, parse_rec hd] at h1
  simp only [Prod.mk.injEq, and_true] at h1
  exact h1.symm
theorem recText_len {r : Rec} (h : checkRec r = 0) : (recText r).length ≤ 61 := by
  obtain ⟨hw, hs, hc⟩ := checkRec_ok h
  have l1 := (itoa_facts (n := r.who) hw.1 (by omega)).2.2.2
  have l2 := (itoa_facts (n := r.seq) (by omega) (by omega)).2.2.2
  have l3 := cmdText_len hc
  simp [recText]
  omega

end Go.Proofs.YtallmebpmoaopaaDoor.S
