
/- Pp: law.StoryOnce. -/
import Derived.Test.YtginfkadmjikhaaGreatDoorPn
namespace Go.Proofs.YtginfkadmjikhaaGreatDoor.E
open Go.RowKit Go.Proofs
set_option linter.unusedVariables false
set_option linter.unusedSimpArgs false
set_option maxRecDepth 100000
set_option maxHeartbeats 2000000
theorem count_step {l : List S.Rec} {i : Nat} {r : S.Rec} {k : Int} (h : l[i]? = some r) : countOf k (l.take (i + 1)) = countOf k (l.take i) + (if r.who = k then 1 else 0) := by
  obtain ⟨g1, g2⟩ := List.getElem?_eq_some_iff.1 h
  unfold countOf
  rw [List.take_succ_eq_append_getElem g1, g2, List.filter_append, List.length_append]
  by_cases g : r.who = k <;> simp [g]
theorem once_1 (w : S.World) (L : List S.Rec) (ho : Once w L) : C Tryz.prog 43 [.agg (worldC false w)] (Bool' true) [] := by
  have c1 := hid (done_eq (reach_done ho.reach))
  obtain ⟨A, hA⟩ : ∃ A, answersFrom S.Hall.new L = A := ⟨_, rfl⟩
  have c2 := reach_told ho.reach
  rw [hA] at c2
  replace c2 := hid (told_eq c2)
  have hAl : A.length = L.length := by rw [← hA, answersFrom_len]
  have hAl' : decide ((L.length : Int) = (A.length : Int)) = true := by simp [hAl]
  have l80 := ho.reach.ok.l80
  have h3 := ho.reach.ok.hand3
  have hat := fun (n i : Nat) (x : S.Hand) (r : S.Rec) (a : S.Answer) (h1 : w.hand[n]? = some x) (h2 : L[i]? = some r) (h4 : A[i]? = some a) (h5 : r.who = n) => once_at ho h1 h2 (hA ▸ h4) h5
  have hct := fun (n : Nat) (x : S.Hand) (h1 : w.hand[n]? = some x) => once_count ho h1
  replace hat := hid hat
  replace hct := hid hct
  replace h3 := hid h3
  replace l80 := hid l80
  replace hAl := hid hAl
  clear hA ho
  refine C_inline [] Tryz.func43 (fun _ _ => by kernel_rfl) rfl (by kernel_rfl) (by rfl) (by decide) (by rfl) (by rfl) (by rfl) ?_
  simp -dsimp -implicitDefEqProofs [-getElem?_pos, -List.map_append, -List.map_set, List.getElem?_cons_zero, List.getElem?_cons_succ]
  refine call_CC (c1.out) ?_
  simp -dsimp -implicitDefEqProofs [-getElem?_pos, -List.map_append, -List.map_set, List.getElem?_cons_zero, List.getElem?_cons_succ]
  refine call_CC (c2.out) ?_
  simp -dsimp -implicitDefEqProofs [-getElem?_pos, -List.map_append, -List.map_set, List.getElem?_cons_zero, List.getElem?_cons_succ, hAl']
  refine loop_count 38 w.hand.length (fun k h n t => ∃ d, n = d + 100) _ rfl (by rfl) ⟨_, by exact rfl⟩ ?_ ?_
  · rintro k t h n hk hci hs ⟨d, rfl⟩
    have hw : IntKind.i64.wrap ((k : Int) + 1) = (k : Int) + 1 := wrap_ok (by have := h3.out; omega)
    obtain ⟨x, hx⟩ : ∃ x, w.hand[k]? = some x := ⟨w.hand[k], by simp⟩
    have hk' : decide (k < w.hand.length) = true := by simp [hk]
    have e1 := hs 1 rfl
    have e3 := hs 3 rfl
    have e5 := hs 5 rfl
    have e36 := hs 36 rfl
    have e37 := hs 37 rfl
    clear hs
    simp -dsimp -implicitDefEqProofs at e1 e3 e5 e36 e37
    replace hk := hid hk
    simp -dsimp -implicitDefEqProofs [-getElem?_pos, -List.map_append, -List.map_set, List.getElem?_cons_zero, List.getElem?_cons_succ, e1, e3, e5, e36, e37, hci, hk', hx]
    obtain ⟨ρ, hρ⟩ : ∃ ρ, d + 100 + 4 + 12 = ρ := ⟨_, rfl⟩
    rw [hρ]
    have f1 := e1
    have f3 := e3
    have f5 := e5
    have f36 := e36
    have f37 := e37
    refine loop_count 45 L.length (fun i h n t => h ρ = some ⟨79, 8, [handC false x]⟩ ∧ t 9 = Int' (countOf k (L.take i)) ∧ ρ < n ∧ ∃ d', n = d' + 144) _ rfl (by rfl) ⟨by simp -dsimp, by rfl, by show ρ < d + 100 + 4 + 24 + 4 + 12; omega, ⟨d, rfl⟩⟩ ?_ ?_
    · have f38 := hci
      clear hci e1 e3 e5 e36 e37 hρ
      rintro i t h n hi hci hs ⟨hrow, h9, hlt, d', rfl⟩
      have hw2 : IntKind.i64.wrap ((i : Int) + 1) = (i : Int) + 1 := wrap_ok (by have := l80.out; omega)
      obtain ⟨r, hr⟩ : ∃ r, L[i]? = some r := ⟨L[i], by simp⟩
      obtain ⟨a, ha⟩ : ∃ a, A[i]? = some a := ⟨A[i]'(by have := hAl.out; omega), by simp⟩
      have hi' : decide (i < L.length) = true := by simp [hi]
      have hcs := count_step (k := (k : Int)) hr
      have hA2 := hat.out k i x r a hx hr ha
      have hcl : countOf k (L.take i) ≤ i := by
        unfold countOf
        refine Nat.le_trans (List.length_filter_le _ _) ?_
        simp; omega
      obtain ⟨c, hc⟩ : ∃ c, countOf k (L.take i) = c := ⟨_, rfl⟩
      rw [hc] at hcs hA2 hcl h9
      obtain ⟨c', hc'⟩ : ∃ c', countOf k (L.take (i + 1)) = c' := ⟨_, rfl⟩
      rw [hc'] at hcs
      have hw3 : IntKind.i64.wrap ((c : Int) + 1) = (c : Int) + 1 := wrap_ok (by have := l80.out; omega)
      have hw4 : IntKind.i64.wrap (c : Int) = (c : Int) := wrap_ok (by have := l80.out; omega)
      obtain ⟨u9, hu9⟩ : ∃ u, t 9 = u := ⟨_, rfl⟩
      have e1 := hs 1 rfl
      have e3 := hs 3 rfl
      have e5 := hs 5 rfl
      have e7 := hs 7 rfl
      have e8 := hs 8 rfl
      have e36 := hs 36 rfl
      have e37 := hs 37 rfl
      have e38 := hs 38 rfl
      have e43 := hs 43 rfl
      have e44 := hs 44 rfl
      clear hs
      simp -dsimp -implicitDefEqProofs at e1 e3 e5 e7 e8 e36 e37 e38 e43 e44
      replace hi := hid hi
      replace hcs := hid hcs
      replace hc' := hid hc'
      replace hc := hid hc
      by_cases hk2 : r.who = (k : Int)
      · obtain ⟨s1, s2⟩ := hA2 hk2
        have hcs2 := hcs.out
        rw [if_pos hk2] at hcs2
        have q1 : decide (r.who = (k : Int)) = true := by simp [hk2]
        have q2 : decide (r.seq = (c : Int) + 1) = true := by simp [s1]
        by_cases hg : c < x.got.length
        · have s3 := s2 hg
          have cs := hid (law_sameAnswer a a)
          rw [decide_eq_true rfl] at cs
          have q3 : decide ((c : Int) + 1 ≤ (x.got.length : Int)) = true := by simp; omega
          have q4 : decide (c + 1 ≤ x.got.length) = true := by simp; omega
          have q5 : decide (c < x.got.length) = true := by simp; omega
          clear s2 hA2
          simp -dsimp -implicitDefEqProofs [-getElem?_pos, -List.map_append, -List.map_set, List.getElem?_cons_zero, List.getElem?_cons_succ, e1, e3, e5, e7, e8, e36, e37, e38, e43, e44, f1, f3, f5, f36, f37, f38, hci, hi', hr, ha, hrow, h9, q1, q2, q3, q4, q5, hw3, hw4, s3, hg, far hlt]
          refine call_CC (cs.out) ?_
          simp -dsimp -implicitDefEqProofs [-getElem?_pos, -List.map_append, -List.map_set, List.getElem?_cons_zero, List.getElem?_cons_succ, e1, e3, e5, e7, e8, e36, e37, e38, e43, e44, f1, f3, f5, f36, f37, f38, hci, hrow, h9, hw2, hw3, far hlt]
          rw [hc'.out, hcs2]
          exact ⟨by omega, by omega⟩
        · have q3 : decide ((c : Int) + 1 ≤ (x.got.length : Int)) = false := by simp; omega
          have q4 : decide (c + 1 ≤ x.got.length) = false := by simp; omega
          have q5 : decide (c < x.got.length) = false := by simp; omega
          clear s2 hA2
          simp -dsimp -implicitDefEqProofs [-getElem?_pos, -List.map_append, -List.map_set, List.getElem?_cons_zero, List.getElem?_cons_succ, e1, e3, e5, e7, e8, e36, e37, e38, e43, e44, f1, f3, f5, f36, f37, f38, hci, hi', hr, ha, hrow, h9, q1, q2, q3, q4, q5, hw2, hw3, hw4, far hlt]
          rw [hc'.out, hcs2]
          exact ⟨by omega, by omega⟩
      · have q1 : decide (r.who = (k : Int)) = false := by simp [hk2]
        have hcs2 := hcs.out
        rw [if_neg hk2] at hcs2
        clear hA2
        simp -dsimp -implicitDefEqProofs [-getElem?_pos, -List.map_append, -List.map_set, List.getElem?_cons_zero, List.getElem?_cons_succ, e1, e3, e5, e7, e8, e36, e37, e38, e43, e44, f1, f3, f5, f36, f37, f38, hci, hi', hr, ha, hrow, h9, q1, hw2, far hlt]
        rw [hc'.out, hcs2]
        exact ⟨by omega, by omega⟩
    · have f38 := hci
      clear hci e1 e3 e5 e36 e37 hρ
      rintro t h n hci hs ⟨hrow, h9, hlt, d', rfl⟩
      rw [List.take_length] at h9
      obtain ⟨s1, s2⟩ := hct.out k x hx
      obtain ⟨c, hc⟩ : ∃ c, countOf k L = c := ⟨_, rfl⟩
      rw [hc] at s1 s2 h9
      have q1 : decide ((c : Int) < (x.got.length : Int)) = false := by simp; omega
      have q2 : decide (c < x.got.length) = false := by simp; omega
      have q3 : decide (x.seq < (c : Int)) = false := by simp; omega
      obtain ⟨u9, hu9⟩ : ∃ u, t 9 = u := ⟨_, rfl⟩
      have e1 := hs 1 rfl
      have e3 := hs 3 rfl
      have e5 := hs 5 rfl
      have e7 := hs 7 rfl
      have e8 := hs 8 rfl
      have e36 := hs 36 rfl
      have e37 := hs 37 rfl
      have e38 := hs 38 rfl
      have e43 := hs 43 rfl
      have e44 := hs 44 rfl
      clear hs
      simp -dsimp -implicitDefEqProofs at e1 e3 e5 e7 e8 e36 e37 e38 e43 e44
      simp -dsimp -implicitDefEqProofs [-getElem?_pos, -List.map_append, -List.map_set, List.getElem?_cons_zero, List.getElem?_cons_succ, e1, e3, e5, e7, e8, e36, e37, e38, e43, e44, f1, f3, f5, f36, f37, f38, hci, hrow, h9, q1, q2, q3, hw, far hlt]
  · rintro t h n hci hs ⟨d, rfl⟩
    have e1 := hs 1 rfl
    have e3 := hs 3 rfl
    have e5 := hs 5 rfl
    have e36 := hs 36 rfl
    have e37 := hs 37 rfl
    clear hs
    simp -dsimp -implicitDefEqProofs at e1 e3 e5 e36 e37
    simp -dsimp -implicitDefEqProofs [-getElem?_pos, -List.map_append, -List.map_set, List.getElem?_cons_zero, List.getElem?_cons_succ, e1, e3, e5, e36, e37, hci]
    exact ends_bool rfl
theorem law_StoryOnce (l : List S.Hap) : C Tryz.prog 9 [.lst false 8 (l.map (hapC false))] (Bool' true) [] := by
  have cp := hid (law_played l 43 once_1)
  refine C_inline [] Tryz.func9 (fun _ _ => by kernel_rfl) rfl (by kernel_rfl) (by rfl) (by decide) (by rfl) (by rfl) (by rfl) ?_
  simp -dsimp -implicitDefEqProofs [-getElem?_pos, -List.map_append, -List.map_set, List.getElem?_cons_zero, List.getElem?_cons_succ]
  refine call_CC (cp.out) ?_
  simp -dsimp -implicitDefEqProofs [-getElem?_pos, -List.map_append, -List.map_set, List.getElem?_cons_zero, List.getElem?_cons_succ]
  refine call_CC (law_told) ?_
  simp -dsimp -implicitDefEqProofs [-getElem?_pos, -List.map_append, -List.map_set, List.getElem?_cons_zero, List.getElem?_cons_succ]
  exact ends_bool rfl
end Go.Proofs.YtginfkadmjikhaaGreatDoor.E
