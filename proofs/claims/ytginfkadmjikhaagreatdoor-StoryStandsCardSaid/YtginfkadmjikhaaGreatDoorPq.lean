
/- Pq: law.StoryStands. -/
import Derived.Test.YtginfkadmjikhaaGreatDoorPn
namespace Go.Proofs.YtginfkadmjikhaaGreatDoor.E
open Go.RowKit Go.Proofs
set_option linter.unusedVariables false
set_option linter.unusedSimpArgs false
set_option maxRecDepth 100000
set_option maxHeartbeats 2000000
def resetF (L : List S.Rec) (A : List S.Answer) (i : Nat) (z : Nat) : Bool := ((L.drop i).zip (A.drop i)).any fun p => decide (p.2.e = 0) && decide (p.1.c.kind = 4) && decide (p.1.c.z = (z : Int))
theorem resetF_end (L : List S.Rec) (A : List S.Answer) (z : Nat) : resetF L A L.length z = false := by unfold resetF; simp
theorem resetF_step {L : List S.Rec} {A : List S.Answer} {i : Nat} {r : S.Rec} {a : S.Answer} (hr : L[i]? = some r) (ha : A[i]? = some a) (z : Nat) : resetF L A i z = (decide (a.e = 0) && decide (r.c.kind = 4) && decide (r.c.z = (z : Int)) || resetF L A (i + 1) z) := by
  unfold resetF
  rw [drop_cons hr, drop_cons ha, List.zip_cons_cons, List.any_cons]
theorem resetF_no {L : List S.Rec} {A : List S.Answer} {i : Nat} {z : Nat} (h : resetF L A i z = false) : ∀ (j : Nat) (r : S.Rec) (a : S.Answer), i ≤ j → L[j]? = some r → A[j]? = some a → a.e = 0 → r.c.kind = 4 → r.c.z ≠ (z : Int) := by
  intro j r a hij hr ha he hk hz
  have hm : (r, a) ∈ (L.drop i).zip (A.drop i) := by
    refine List.mem_of_getElem? (i := j - i) ?_
    rw [List.getElem?_zip_eq_some, List.getElem?_drop, List.getElem?_drop, show i + (j - i) = j by omega]
    exact ⟨hr, ha⟩
  have := (List.any_eq_false.1 h) _ hm
  simp [he, hk, hz] at this
abbrev resetRow (R : Nat → Bool) : List AV := [Bool' (R 0), Bool' (R 1), Bool' (R 2), Bool' (R 3)]
def StandsAt (h : Heap) (v : AV) (L : List S.Rec) (A : List S.Answer) (H : S.Hall) (k : Nat) : Prop := ∃ m : Nat, m + k = L.length ∧ v = Int' ((m : Int) - 1) ∧ h 200 = some ⟨91, 4, [resetRow (resetF L A m)]⟩ ∧ h 136 = some ⟨30, 5, [hallC true H]⟩
theorem stands_1 (w : S.World) (L : List S.Rec) (ho : Once w L) : C Tryz.prog 45 [.agg (worldC false w)] (Bool' true) [] := by
  have c1 := hid (done_eq (reach_done ho.reach))
  obtain ⟨A, hA⟩ : ∃ A, answersFrom S.Hall.new L = A := ⟨_, rfl⟩
  have c2 := reach_told ho.reach
  rw [hA] at c2
  replace c2 := hid (told_eq c2)
  have hAl : A.length = L.length := by rw [← hA, answersFrom_len]
  have hAl' : decide ((L.length : Int) = (A.length : Int)) = true := by simp [hAl]
  have l80 := ho.reach.ok.l80
  obtain ⟨H, hH⟩ := ho.reach.rep
  have c3 := hid (replay1_eq hH)
  have hst := fun (i : Nat) (r : S.Rec) (a : S.Answer) (h1 : L[i]? = some r) (h2 : A[i]? = some a) => story_stands L.length rfl ho.num hH i r a h1 (hA ▸ h2)
  rw [hA] at hst
  have hrec := ho.reach.ok.recs
  have hup := ho.reach.ok.up
  obtain ⟨H0, d, up, hand, mail⟩ := w
  simp only at hup
  have hsame : up = true → decide (H = H0) = true := fun g => by
    have := (hup g).2
    rw [hH] at this
    simp only [Prod.mk.injEq, and_true] at this
    simp [this]
  have hw0 : IntKind.i64.wrap ((L.length : Int) - 1) = (L.length : Int) - 1 := wrap_ok (by omega)
  replace hst := hid hst
  replace hrec := hid hrec
  replace l80 := hid l80
  replace hAl := hid hAl
  clear hA ho hup
  cases up
  · refine C_inlineG [(12, [66010, 68010])] [] Tryz.func45 (fun _ _ => by kernel_rfl) rfl (by kernel_rfl) (by rfl) (by decide) (by rfl) (by rfl) (by first | rfl | exact plain_I _ | exact plain_map (fun _ => rfl) _) ?_
    simp -dsimp -implicitDefEqProofs [-getElem?_pos, -List.map_append, -List.map_set, List.getElem?_cons_zero, List.getElem?_cons_succ]
    refine call_CC (c1.out) ?_
    simp -dsimp -implicitDefEqProofs [-getElem?_pos, -List.map_append, -List.map_set, List.getElem?_cons_zero, List.getElem?_cons_succ]
    refine call_CC (c2.out) ?_
    simp -dsimp -implicitDefEqProofs [-getElem?_pos, -List.map_append, -List.map_set, List.getElem?_cons_zero, List.getElem?_cons_succ, hAl']
    refine call_CC (c3.out) ?_
    simp -dsimp -implicitDefEqProofs [-getElem?_pos, -List.map_append, -List.map_set, List.getElem?_cons_zero, List.getElem?_cons_succ, hw0]
    refine loop_ghost L.length (fun k h n t => StandsAt h (t 9) L A H k ∧ ∃ d, n = d + 220) _ rfl ⟨⟨L.length, by omega, rfl, by rw [show resetRow (resetF L A L.length) = [Bool' false, Bool' false, Bool' false, Bool' false] from by simp only [resetRow, resetF_end]]; rfl, rfl⟩, ⟨0, rfl⟩⟩ ?_ ?_
    · rintro k t h n hk hs ⟨⟨m, hmk, h9, h200, h136⟩, d, rfl⟩
      obtain ⟨i, rfl⟩ : ∃ i, m = i + 1 := ⟨m - 1, by omega⟩
      have hi : i < L.length := by omega
      rw [show (((i + 1 : Nat) : Int) - 1) = (i : Int) by omega] at h9
      obtain ⟨r, hr⟩ : ∃ r, L[i]? = some r := ⟨L[i], by simp⟩
      obtain ⟨a, ha⟩ : ∃ a, A[i]? = some a := ⟨A[i]'(by have := hAl.out; omega), by simp⟩
      have hcf := cmd_facts (checkRec_parts (hrec.out r (List.mem_of_getElem? hr))).2.2.2.2
      have hs1 := hst.out i r a hr ha
      have hstep := fun z => resetF_step hr ha z
      have hno := fun z => resetF_no (L := L) (A := A) (i := i + 1) (z := z)
      obtain ⟨zc, hz⟩ : ∃ zc : Nat, r.c.z = zc := ⟨r.c.z.toNat, by omega⟩
      obtain ⟨R1, hR1⟩ : ∃ R, resetF L A (i + 1) = R := ⟨_, rfl⟩
      obtain ⟨R0, hR0⟩ : ∃ R, resetF L A i = R := ⟨_, rfl⟩
      rw [hR1] at h200
      simp only [hR0, hR1, hz] at hstep
      have hw9 : IntKind.i64.wrap ((i : Int) - 1) = (i : Int) - 1 := wrap_ok (by have := l80.out; omega)
      obtain ⟨u9, hu9⟩ : ∃ u, t 9 = u := ⟨_, rfl⟩
      have same : (∀ z, z < 4 → R0 z = R1 z) → resetRow R1 = resetRow (resetF L A i) := fun g => by rw [hR0]; simp only [resetRow, g 0 (by omega), g 1 (by omega), g 2 (by omega), g 3 (by omega)]
      replace hs1 := hid hs1
      have hSm := hid (small_of (checkHall_parts (replay_right (S.replay_ok hH).2)).1).1
      replace hno := hid hno
      replace hstep := hid hstep
      replace hR0 := hid hR0
      replace hR1 := hid hR1
      replace same := hid same
      have hi0 : decide ((i : Int) < 0) = false := by simp
      have e3 := hs 3 rfl
      have e5 := hs 5 rfl
      have e7 := hs 7 rfl
      have e8 := hs 8 rfl
      clear hs
      simp -dsimp -implicitDefEqProofs at e3 e5 e7 e8
      replace hi := hid hi
      replace hk := hid hk
      replace hmk := hid hmk
      by_cases hz4 : 4 ≤ zc
      · have q1 : decide (4 ≤ zc) = true := by simp [hz4]
        have q1' : decide ((4 : Int) ≤ (zc : Int)) = true := by simp; omega
        have hsm := same.out (fun z hz => by rw [hstep.out z, show decide ((zc : Int) = (z : Int)) = false by simp; omega]; simp)
        simp -dsimp -implicitDefEqProofs [-getElem?_pos, -List.map_append, -List.map_set, List.getElem?_cons_zero, List.getElem?_cons_succ, e3, e5, e7, e8, h9, hr, ha, hz, q1, q1', h200, h136, hi0, hw9]
        exact ⟨i, by have := hmk.out; omega, rfl, by rw [← hsm]; repeat (first | exact h200 | rw [upd_ne _ _ (by omega)]), by repeat (first | exact h136 | rw [upd_ne _ _ (by omega)])⟩
      have q1 : decide (4 ≤ zc) = false := by simp; omega
      have q1' : decide ((4 : Int) ≤ (zc : Int)) = false := by simp; omega
      by_cases hae : a.e = 0
      rotate_left
      · have hsm := same.out (fun z hz => by rw [hstep.out z]; simp [hae])
        have q2 : decide (a.e = 0) = false := by simp [hae]
        simp -dsimp -implicitDefEqProofs [-getElem?_pos, -List.map_append, -List.map_set, List.getElem?_cons_zero, List.getElem?_cons_succ, e3, e5, e7, e8, h9, hr, ha, hz, q1, q1', q2, h200, h136, hi0, hw9]
        exact ⟨i, by have := hmk.out; omega, rfl, by rw [← hsm]; repeat (first | exact h200 | rw [upd_ne _ _ (by omega)]), by repeat (first | exact h136 | rw [upd_ne _ _ (by omega)])⟩
      have q2 : decide (a.e = 0) = true := by simp [hae]
      by_cases hk4 : r.c.kind = 4
      · have q3 : decide (r.c.kind = 4) = true := by simp [hk4]
        have q5 : decide (r.c.kind = 5) = false := by simp [hk4]
        have q6 : decide (r.c.kind = 6) = false := by simp [hk4]
        have hre : ∀ z : Nat, R0 z = (decide (zc = z) || R1 z) := fun z => by rw [hstep.out z, show decide ((zc : Int) = (z : Int)) = decide (zc = z) from decide_eq_decide.2 Int.ofNat_inj]; simp [hae, hk4]
        have hrow : resetRow (resetF L A i) = [Bool' (decide (zc = 0) || R1 0), Bool' (decide (zc = 1) || R1 1), Bool' (decide (zc = 2) || R1 2), Bool' (decide (zc = 3) || R1 3)] := by
          rw [hR0.out]
          simp only [resetRow, hre]
        rcases (by omega : zc = 0 ∨ zc = 1 ∨ zc = 2 ∨ zc = 3) with rfl | rfl | rfl | rfl
        all_goals
          simp -dsimp -implicitDefEqProofs [-getElem?_pos, -List.map_append, -List.map_set, List.getElem?_cons_zero, List.getElem?_cons_succ, e3, e5, e7, e8, h9, hr, ha, hz, q1, q1', q2, q3, q5, q6, h200, h136, hi0, hw9]
          exact ⟨i, by have := hmk.out; omega, rfl, by rw [hrow]; repeat (first | exact upd_same _ _ _ | rw [upd_ne _ _ (by omega)]), by repeat (first | exact h136 | rw [upd_ne _ _ (by omega)])⟩
      have hsm := same.out (fun z hz => by rw [hstep.out z]; simp [hk4])
      have q3 : decide (r.c.kind = 4) = false := by simp [hk4]
      by_cases hk56 : r.c.kind = 5 ∨ r.c.kind = 6
      rotate_left
      · have q5 : decide (r.c.kind = 5) = false := by simp; omega
        have q6 : decide (r.c.kind = 6) = false := by simp; omega
        simp -dsimp -implicitDefEqProofs [-getElem?_pos, -List.map_append, -List.map_set, List.getElem?_cons_zero, List.getElem?_cons_succ, e3, e5, e7, e8, h9, hr, ha, hz, q1, q1', q2, q3, q5, q6, h200, h136, hi0, hw9]
        exact ⟨i, by have := hmk.out; omega, rfl, by rw [← hsm]; repeat (first | exact h200 | rw [upd_ne _ _ (by omega)]), by repeat (first | exact h136 | rw [upd_ne _ _ (by omega)])⟩
      cases hb : R1 zc with
      | true =>
        rcases (by omega : zc = 0 ∨ zc = 1 ∨ zc = 2 ∨ zc = 3) with rfl | rfl | rfl | rfl <;> rcases hk56 with hk5 | hk5
        all_goals
          simp -dsimp -implicitDefEqProofs [-getElem?_pos, -List.map_append, -List.map_set, List.getElem?_cons_zero, List.getElem?_cons_succ, e3, e5, e7, e8, h9, hr, ha, hz, q1, q1', q2, q3, hk5, hb, h200, h136, hi0, hw9]
          exact ⟨i, by have := hmk.out; omega, rfl, by rw [← hsm]; repeat (first | exact h200 | rw [upd_ne _ _ (by omega)]), by repeat (first | exact h136 | rw [upd_ne _ _ (by omega)])⟩
      | false =>
        obtain ⟨zn, y, p, s1, s2, s3, s4, s5⟩ := hs1.out hae hk56 (fun j r' a' hj h1 h2 h3 h4 => by
          rw [hz]
          exact hno.out zc (by rw [hR1.out]; exact hb) j r' a' (by omega) h1 h2 h3 h4)
        have hzn : zn = zc := by rw [hz] at s1; omega
        subst hzn
        have hcl := checkCmd_len (checkRec_parts (hrec.out r (List.mem_of_getElem? hr))).2.2.2.2
        have hyl := hSm.out.z y (List.mem_of_getElem? s2)
        have u1 : IntKind.i64.wrap ((p : Int) + (r.c.d.length : Int)) = ((p + r.c.d.length : Nat) : Int) := (wrap_ok (by omega)).trans (by simp)
        have u2 : decide ((y.d.length : Int) < ((p + r.c.d.length : Nat) : Int)) = false := by simp; omega
        have u3 : decide (y.d.length < p + r.c.d.length) = false := by simp; omega
        have u7 : decide ((y.d.length : Int) < (p : Int) + (r.c.d.length : Int)) = false := by simp; omega
        have u8 : IntKind.i64.wrap ((p + r.c.d.length : Nat) : Int) = ((p + r.c.d.length : Nat) : Int) := wrap_ok (by omega)
        have u4 : (decide ((y.d.take (p + r.c.d.length)).drop p = r.c.d)) = true := by
          rw [List.drop_take, show p + r.c.d.length - p = r.c.d.length by omega]
          simp [s5]
        have c5 := equal_int ((y.d.take (p + r.c.d.length)).drop p) r.c.d (by simp; omega)
        rw [u4] at c5
        obtain ⟨dl, hdl⟩ : ∃ dl, r.c.d.length = dl := ⟨_, rfl⟩
        obtain ⟨dd, hdd⟩ : ∃ dd, r.c.d = dd := ⟨_, rfl⟩
        obtain ⟨yl, hyl'⟩ : ∃ yl, y.d.length = yl := ⟨_, rfl⟩
        have u6 : p + dl ≤ yl := by omega
        have u10 : (0 : Int) ≤ (p : Int) + (dl : Int) := by omega
        have u11 : ((p : Int) + (dl : Int)).toNat = p + dl := by omega
        clear hcl hyl u4 s1 s4 s5
        rw [hdl] at c5 u1 u2 u3 u7 u8
        rw [hyl'] at u2 u3 u7
        rw [hdd] at c5 hdl
        replace c5 := hid c5
        rcases (by omega : zn = 0 ∨ zn = 1 ∨ zn = 2 ∨ zn = 3) with rfl | rfl | rfl | rfl <;> rcases hk56 with hk5 | hk5
        all_goals
          simp -dsimp -implicitDefEqProofs [-getElem?_pos, -List.map_append, -List.map_set, List.getElem?_cons_zero, List.getElem?_cons_succ, e3, e5, e7, e8, h9, hr, ha, hz, q1, q1', q2, q3, hk5, hb, h200, h136, hi0, hw9, s2, s3, u1, u2, u3, u6, u7, u8, u10, u11, hdd, hdl, hyl']
          refine call_CC (c5.out) ?_
          simp -dsimp -implicitDefEqProofs [-getElem?_pos, -List.map_append, -List.map_set, List.getElem?_cons_zero, List.getElem?_cons_succ, e3, e5, e7, e8, h9, h200, h136, hw9]
          exact ⟨i, by have := hmk.out; omega, rfl, by rw [← hsm]; repeat (first | exact h200 | rw [upd_ne _ _ (by omega)]), by repeat (first | exact h136 | rw [upd_ne _ _ (by omega)])⟩
    · rintro t h n hs ⟨⟨m, hmk, h9, h200, h136⟩, d, rfl⟩
      obtain rfl : m = 0 := by omega
      rw [show (((0 : Nat) : Int) - 1) = (-1 : Int) by omega] at h9
      obtain ⟨u9, hu9⟩ : ∃ u, t 9 = u := ⟨_, rfl⟩
      have e3 := hs 3 rfl
      have e5 := hs 5 rfl
      have e7 := hs 7 rfl
      have e8 := hs 8 rfl
      clear hs
      simp -dsimp -implicitDefEqProofs at e3 e5 e7 e8
      simp -dsimp -implicitDefEqProofs [-getElem?_pos, -List.map_append, -List.map_set, List.getElem?_cons_zero, List.getElem?_cons_succ, e3, e5, e7, e8, h9]
      exact ends_bool rfl
  · have cs := hid (hall_Same_eq (a := H) (b := H0) (hsame rfl))
    refine C_inlineG [(12, [66010, 68010])] [] Tryz.func45 (fun _ _ => by kernel_rfl) rfl (by kernel_rfl) (by rfl) (by decide) (by rfl) (by rfl) (by first | rfl | exact plain_I _ | exact plain_map (fun _ => rfl) _) ?_
    simp -dsimp -implicitDefEqProofs [-getElem?_pos, -List.map_append, -List.map_set, List.getElem?_cons_zero, List.getElem?_cons_succ]
    refine call_CC (c1.out) ?_
    simp -dsimp -implicitDefEqProofs [-getElem?_pos, -List.map_append, -List.map_set, List.getElem?_cons_zero, List.getElem?_cons_succ]
    refine call_CC (c2.out) ?_
    simp -dsimp -implicitDefEqProofs [-getElem?_pos, -List.map_append, -List.map_set, List.getElem?_cons_zero, List.getElem?_cons_succ, hAl']
    refine call_CC (c3.out) ?_
    simp -dsimp -implicitDefEqProofs [-getElem?_pos, -List.map_append, -List.map_set, List.getElem?_cons_zero, List.getElem?_cons_succ, hw0]
    refine call_CC (cs.out) ?_
    simp -dsimp -implicitDefEqProofs [-getElem?_pos, -List.map_append, -List.map_set, List.getElem?_cons_zero, List.getElem?_cons_succ, hw0]
    refine loop_ghost L.length (fun k h n t => StandsAt h (t 9) L A H k ∧ ∃ d, n = d + 220) _ rfl ⟨⟨L.length, by omega, rfl, by rw [show resetRow (resetF L A L.length) = [Bool' false, Bool' false, Bool' false, Bool' false] from by simp only [resetRow, resetF_end]]; rfl, rfl⟩, ⟨0, rfl⟩⟩ ?_ ?_
    · rintro k t h n hk hs ⟨⟨m, hmk, h9, h200, h136⟩, d, rfl⟩
      obtain ⟨i, rfl⟩ : ∃ i, m = i + 1 := ⟨m - 1, by omega⟩
      have hi : i < L.length := by omega
      rw [show (((i + 1 : Nat) : Int) - 1) = (i : Int) by omega] at h9
      obtain ⟨r, hr⟩ : ∃ r, L[i]? = some r := ⟨L[i], by simp⟩
      obtain ⟨a, ha⟩ : ∃ a, A[i]? = some a := ⟨A[i]'(by have := hAl.out; omega), by simp⟩
      have hcf := cmd_facts (checkRec_parts (hrec.out r (List.mem_of_getElem? hr))).2.2.2.2
      have hs1 := hst.out i r a hr ha
      have hstep := fun z => resetF_step hr ha z
      have hno := fun z => resetF_no (L := L) (A := A) (i := i + 1) (z := z)
      obtain ⟨zc, hz⟩ : ∃ zc : Nat, r.c.z = zc := ⟨r.c.z.toNat, by omega⟩
      obtain ⟨R1, hR1⟩ : ∃ R, resetF L A (i + 1) = R := ⟨_, rfl⟩
      obtain ⟨R0, hR0⟩ : ∃ R, resetF L A i = R := ⟨_, rfl⟩
      rw [hR1] at h200
      simp only [hR0, hR1, hz] at hstep
      have hw9 : IntKind.i64.wrap ((i : Int) - 1) = (i : Int) - 1 := wrap_ok (by have := l80.out; omega)
      obtain ⟨u9, hu9⟩ : ∃ u, t 9 = u := ⟨_, rfl⟩
      have same : (∀ z, z < 4 → R0 z = R1 z) → resetRow R1 = resetRow (resetF L A i) := fun g => by rw [hR0]; simp only [resetRow, g 0 (by omega), g 1 (by omega), g 2 (by omega), g 3 (by omega)]
      replace hs1 := hid hs1
      have hSm := hid (small_of (checkHall_parts (replay_right (S.replay_ok hH).2)).1).1
      replace hno := hid hno
      replace hstep := hid hstep
      replace hR0 := hid hR0
      replace hR1 := hid hR1
      replace same := hid same
      have hi0 : decide ((i : Int) < 0) = false := by simp
      have e3 := hs 3 rfl
      have e5 := hs 5 rfl
      have e7 := hs 7 rfl
      have e8 := hs 8 rfl
      clear hs
      simp -dsimp -implicitDefEqProofs at e3 e5 e7 e8
      replace hi := hid hi
      replace hk := hid hk
      replace hmk := hid hmk
      by_cases hz4 : 4 ≤ zc
      · have q1 : decide (4 ≤ zc) = true := by simp [hz4]
        have q1' : decide ((4 : Int) ≤ (zc : Int)) = true := by simp; omega
        have hsm := same.out (fun z hz => by rw [hstep.out z, show decide ((zc : Int) = (z : Int)) = false by simp; omega]; simp)
        simp -dsimp -implicitDefEqProofs [-getElem?_pos, -List.map_append, -List.map_set, List.getElem?_cons_zero, List.getElem?_cons_succ, e3, e5, e7, e8, h9, hr, ha, hz, q1, q1', h200, h136, hi0, hw9]
        exact ⟨i, by have := hmk.out; omega, rfl, by rw [← hsm]; repeat (first | exact h200 | rw [upd_ne _ _ (by omega)]), by repeat (first | exact h136 | rw [upd_ne _ _ (by omega)])⟩
      have q1 : decide (4 ≤ zc) = false := by simp; omega
      have q1' : decide ((4 : Int) ≤ (zc : Int)) = false := by simp; omega
      by_cases hae : a.e = 0
      rotate_left
      · have hsm := same.out (fun z hz => by rw [hstep.out z]; simp [hae])
        have q2 : decide (a.e = 0) = false := by simp [hae]
        simp -dsimp -implicitDefEqProofs [-getElem?_pos, -List.map_append, -List.map_set, List.getElem?_cons_zero, List.getElem?_cons_succ, e3, e5, e7, e8, h9, hr, ha, hz, q1, q1', q2, h200, h136, hi0, hw9]
        exact ⟨i, by have := hmk.out; omega, rfl, by rw [← hsm]; repeat (first | exact h200 | rw [upd_ne _ _ (by omega)]), by repeat (first | exact h136 | rw [upd_ne _ _ (by omega)])⟩
      have q2 : decide (a.e = 0) = true := by simp [hae]
      by_cases hk4 : r.c.kind = 4
      · have q3 : decide (r.c.kind = 4) = true := by simp [hk4]
        have q5 : decide (r.c.kind = 5) = false := by simp [hk4]
        have q6 : decide (r.c.kind = 6) = false := by simp [hk4]
        have hre : ∀ z : Nat, R0 z = (decide (zc = z) || R1 z) := fun z => by rw [hstep.out z, show decide ((zc : Int) = (z : Int)) = decide (zc = z) from decide_eq_decide.2 Int.ofNat_inj]; simp [hae, hk4]
        have hrow : resetRow (resetF L A i) = [Bool' (decide (zc = 0) || R1 0), Bool' (decide (zc = 1) || R1 1), Bool' (decide (zc = 2) || R1 2), Bool' (decide (zc = 3) || R1 3)] := by
          rw [hR0.out]
          simp only [resetRow, hre]
        rcases (by omega : zc = 0 ∨ zc = 1 ∨ zc = 2 ∨ zc = 3) with rfl | rfl | rfl | rfl
        all_goals
          simp -dsimp -implicitDefEqProofs [-getElem?_pos, -List.map_append, -List.map_set, List.getElem?_cons_zero, List.getElem?_cons_succ, e3, e5, e7, e8, h9, hr, ha, hz, q1, q1', q2, q3, q5, q6, h200, h136, hi0, hw9]
          exact ⟨i, by have := hmk.out; omega, rfl, by rw [hrow]; repeat (first | exact upd_same _ _ _ | rw [upd_ne _ _ (by omega)]), by repeat (first | exact h136 | rw [upd_ne _ _ (by omega)])⟩
      have hsm := same.out (fun z hz => by rw [hstep.out z]; simp [hk4])
      have q3 : decide (r.c.kind = 4) = false := by simp [hk4]
      by_cases hk56 : r.c.kind = 5 ∨ r.c.kind = 6
      rotate_left
      · have q5 : decide (r.c.kind = 5) = false := by simp; omega
        have q6 : decide (r.c.kind = 6) = false := by simp; omega
        simp -dsimp -implicitDefEqProofs [-getElem?_pos, -List.map_append, -List.map_set, List.getElem?_cons_zero, List.getElem?_cons_succ, e3, e5, e7, e8, h9, hr, ha, hz, q1, q1', q2, q3, q5, q6, h200, h136, hi0, hw9]
        exact ⟨i, by have := hmk.out; omega, rfl, by rw [← hsm]; repeat (first | exact h200 | rw [upd_ne _ _ (by omega)]), by repeat (first | exact h136 | rw [upd_ne _ _ (by omega)])⟩
      cases hb : R1 zc with
      | true =>
        rcases (by omega : zc = 0 ∨ zc = 1 ∨ zc = 2 ∨ zc = 3) with rfl | rfl | rfl | rfl <;> rcases hk56 with hk5 | hk5
        all_goals
          simp -dsimp -implicitDefEqProofs [-getElem?_pos, -List.map_append, -List.map_set, List.getElem?_cons_zero, List.getElem?_cons_succ, e3, e5, e7, e8, h9, hr, ha, hz, q1, q1', q2, q3, hk5, hb, h200, h136, hi0, hw9]
          exact ⟨i, by have := hmk.out; omega, rfl, by rw [← hsm]; repeat (first | exact h200 | rw [upd_ne _ _ (by omega)]), by repeat (first | exact h136 | rw [upd_ne _ _ (by omega)])⟩
      | false =>
        obtain ⟨zn, y, p, s1, s2, s3, s4, s5⟩ := hs1.out hae hk56 (fun j r' a' hj h1 h2 h3 h4 => by
          rw [hz]
          exact hno.out zc (by rw [hR1.out]; exact hb) j r' a' (by omega) h1 h2 h3 h4)
        have hzn : zn = zc := by rw [hz] at s1; omega
        subst hzn
        have hcl := checkCmd_len (checkRec_parts (hrec.out r (List.mem_of_getElem? hr))).2.2.2.2
        have hyl := hSm.out.z y (List.mem_of_getElem? s2)
        have u1 : IntKind.i64.wrap ((p : Int) + (r.c.d.length : Int)) = ((p + r.c.d.length : Nat) : Int) := (wrap_ok (by omega)).trans (by simp)
        have u2 : decide ((y.d.length : Int) < ((p + r.c.d.length : Nat) : Int)) = false := by simp; omega
        have u3 : decide (y.d.length < p + r.c.d.length) = false := by simp; omega
        have u7 : decide ((y.d.length : Int) < (p : Int) + (r.c.d.length : Int)) = false := by simp; omega
        have u8 : IntKind.i64.wrap ((p + r.c.d.length : Nat) : Int) = ((p + r.c.d.length : Nat) : Int) := wrap_ok (by omega)
        have u4 : (decide ((y.d.take (p + r.c.d.length)).drop p = r.c.d)) = true := by
          rw [List.drop_take, show p + r.c.d.length - p = r.c.d.length by omega]
          simp [s5]
        have c5 := equal_int ((y.d.take (p + r.c.d.length)).drop p) r.c.d (by simp; omega)
        rw [u4] at c5
        obtain ⟨dl, hdl⟩ : ∃ dl, r.c.d.length = dl := ⟨_, rfl⟩
        obtain ⟨dd, hdd⟩ : ∃ dd, r.c.d = dd := ⟨_, rfl⟩
        obtain ⟨yl, hyl'⟩ : ∃ yl, y.d.length = yl := ⟨_, rfl⟩
        have u6 : p + dl ≤ yl := by omega
        have u10 : (0 : Int) ≤ (p : Int) + (dl : Int) := by omega
        have u11 : ((p : Int) + (dl : Int)).toNat = p + dl := by omega
        clear hcl hyl u4 s1 s4 s5
        rw [hdl] at c5 u1 u2 u3 u7 u8
        rw [hyl'] at u2 u3 u7
        rw [hdd] at c5 hdl
        replace c5 := hid c5
        rcases (by omega : zn = 0 ∨ zn = 1 ∨ zn = 2 ∨ zn = 3) with rfl | rfl | rfl | rfl <;> rcases hk56 with hk5 | hk5
        all_goals
          simp -dsimp -implicitDefEqProofs [-getElem?_pos, -List.map_append, -List.map_set, List.getElem?_cons_zero, List.getElem?_cons_succ, e3, e5, e7, e8, h9, hr, ha, hz, q1, q1', q2, q3, hk5, hb, h200, h136, hi0, hw9, s2, s3, u1, u2, u3, u6, u7, u8, u10, u11, hdd, hdl, hyl']
          refine call_CC (c5.out) ?_
          simp -dsimp -implicitDefEqProofs [-getElem?_pos, -List.map_append, -List.map_set, List.getElem?_cons_zero, List.getElem?_cons_succ, e3, e5, e7, e8, h9, h200, h136, hw9]
          exact ⟨i, by have := hmk.out; omega, rfl, by rw [← hsm]; repeat (first | exact h200 | rw [upd_ne _ _ (by omega)]), by repeat (first | exact h136 | rw [upd_ne _ _ (by omega)])⟩
    · rintro t h n hs ⟨⟨m, hmk, h9, h200, h136⟩, d, rfl⟩
      obtain rfl : m = 0 := by omega
      rw [show (((0 : Nat) : Int) - 1) = (-1 : Int) by omega] at h9
      obtain ⟨u9, hu9⟩ : ∃ u, t 9 = u := ⟨_, rfl⟩
      have e3 := hs 3 rfl
      have e5 := hs 5 rfl
      have e7 := hs 7 rfl
      have e8 := hs 8 rfl
      clear hs
      simp -dsimp -implicitDefEqProofs at e3 e5 e7 e8
      simp -dsimp -implicitDefEqProofs [-getElem?_pos, -List.map_append, -List.map_set, List.getElem?_cons_zero, List.getElem?_cons_succ, e3, e5, e7, e8, h9]
      exact ends_bool rfl
theorem law_StoryStands (l : List S.Hap) : C Tryz.prog 10 [.lst false 8 (l.map (hapC false))] (Bool' true) [] := by
  have cp := hid (law_played l 45 stands_1)
  refine C_inline [] Tryz.func10 (fun _ _ => by kernel_rfl) rfl (by kernel_rfl) (by rfl) (by decide) (by rfl) (by rfl) (by rfl) ?_
  simp -dsimp -implicitDefEqProofs [-getElem?_pos, -List.map_append, -List.map_set, List.getElem?_cons_zero, List.getElem?_cons_succ]
  refine call_CC (cp.out) ?_
  simp -dsimp -implicitDefEqProofs [-getElem?_pos, -List.map_append, -List.map_set, List.getElem?_cons_zero, List.getElem?_cons_succ]
  refine call_CC (law_told) ?_
  simp -dsimp -implicitDefEqProofs [-getElem?_pos, -List.map_append, -List.map_set, List.getElem?_cons_zero, List.getElem?_cons_succ]
  exact ends_bool rfl
end Go.Proofs.YtginfkadmjikhaaGreatDoor.E
