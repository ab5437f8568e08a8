
/- SpecKeeps: records put one by one; a disk that crashes keeps whole lines. No program is named here. -/
import Derived.Test.YtallmebpmoaopaaDoorSq
namespace Go.Proofs.YtallmebpmoaopaaDoor.S
open Go

/-- records put, as far as they can be -/
def putAll : List Rec → Disk → List Rec → Disk × List Rec
  | [], d, out => (d, out)
  | r :: l, d, out => if (putDisk d r).2 = 0 then putAll l (putDisk d r).1 (out ++ [r]) else putAll l d out

theorem textOf_snoc (b : List Rec) (r : Rec) : textOf b ++ recText r ++ [10] = textOf (b ++ [r]) := by
  rw [textOf_app]; simp [textOf]
theorem putAll_text {a : List Rec} (ha : ∀ r, r ∈ a → checkRec r = 0) (hal : a.length ≤ 80) : ∀ (l b : List Rec), (∀ r, r ∈ b → checkRec r = 0) → b.length + l.length ≤ 20 →
    ∃ b', putAll l ⟨textOf a, textOf b⟩ b = (⟨textOf a, textOf b'⟩, b') ∧ (∀ r, r ∈ b' → checkRec r = 0) ∧ b'.length ≤ 20
  | [], b, hb, hl => ⟨b, rfl, hb, by simpa using hl⟩
  | r :: l, b, hb, hl => by
    simp only [List.length_cons] at hl
    have h1 := textOf_len hb
    rw [putAll]
    by_cases hr : checkRec r = 0
    · rw [put_text ha hal (by omega) hr, if_pos rfl]
      simp only [textOf_snoc]
      exact putAll_text ha hal l (b ++ [r]) (fun x hx => (List.mem_append.1 hx).elim (hb x) (by simp; rintro rfl; exact hr)) (by simp; omega)
    · have hc := check_text (l := a) (w := textOf b) ha hal (by omega)
      have : (putDisk ⟨textOf a, textOf b⟩ r).2 ≠ 0 := by
        unfold putDisk
        rw [if_neg (by simp [hc]), if_pos hr]
        exact hr
      rw [if_neg this]
      exact putAll_text ha hal l b hb (by omega)

/-- a part of lines: whole ones, and the beginning of one -/
theorem take_text : ∀ {b : List Rec} (k : Nat), (∀ r, r ∈ b → checkRec r = 0) → ∃ (j : Nat) (p : List UInt8), (textOf b).take k = textOf (b.take j) ++ p ∧ (10 : UInt8) ∉ p ∧ j ≤ b.length
  | [], k, _ => ⟨0, [], by simp [textOf], by simp, by simp⟩
  | r :: b, k, h => by
    have hr := recText_no_line (h r (by simp))
    by_cases hk : k ≤ (recText r).length
    · refine ⟨0, (recText r).take k, ?_, fun hm => hr (List.mem_of_mem_take hm), by simp⟩
      simp only [textOf, List.take_zero, List.nil_append]
      rw [List.take_append_of_le_length hk]
    · obtain ⟨j, p, h1, h2, h3⟩ := take_text (b := b) (k - (recText r).length - 1) (fun x hx => h x (by simp [hx]))
      refine ⟨j + 1, p, ?_, h2, by simp; omega⟩
      simp only [textOf, List.take_succ_cons]
      obtain ⟨i, hi⟩ : ∃ i, k = (recText r).length + (i + 1) := ⟨k - (recText r).length - 1, by omega⟩
      have e : k - (recText r).length - 1 = i := by omega
      rw [e] at h1
      rw [hi, List.take_length_add_append, List.take_succ_cons, h1]
      simp

theorem crash_text {a b : List Rec} (ha : ∀ r, r ∈ a → checkRec r = 0) (hal : a.length ≤ 20) (hb : ∀ r, r ∈ b → checkRec r = 0) (hbl : b.length ≤ 20) {k : Nat} (hk : k ≤ (textOf b).length) :
    ∃ (j : Nat) (p : List UInt8), crashDisk ⟨textOf a, textOf b⟩ k = (⟨textOf a, textOf (b.take j) ++ p⟩, 0) ∧ recoverDisk ⟨textOf a, textOf (b.take j) ++ p⟩ = (⟨textOf (a ++ b.take j), []⟩, a ++ b.take j, 0) ∧ j ≤ b.length := by
  obtain ⟨j, p, h1, h2, h3⟩ := take_text k hb
  have l1 := textOf_len hb
  have hlen : (textOf (b.take j) ++ p).length ≤ 5000 := by
    rw [← h1]; simp; omega
  have hbj : ∀ r, r ∈ b.take j → checkRec r = 0 := fun r hr => hb r (List.mem_of_mem_take hr)
  refine ⟨j, p, ?_, ?_, h3⟩
  · unfold crashDisk
    rw [if_neg (by simp [check_text ha (by omega) (w := textOf b) (by omega)]), if_neg (by simp only; omega)]
    simp only [Int.toNat_natCast, h1]
  · have hj : (b.take j).length ≤ 20 := by simp; omega
    obtain ⟨q1, q2, q3⟩ := lines_text (l := b.take j) p (80 - (a.length : Int)) hbj h2 (by omega)
    unfold recoverDisk kept
    rw [if_neg (by simp [check_text ha (by omega) (w := textOf (b.take j) ++ p) hlen])]
    simp only [lines_whole (m := 80) ha (by omega), q1, q2]
    have e : (textOf (b.take j) ++ p).length - p.length = (textOf (b.take j)).length := by simp
    rw [e, List.take_left, textOf_app]

end Go.Proofs.YtallmebpmoaopaaDoor.S
