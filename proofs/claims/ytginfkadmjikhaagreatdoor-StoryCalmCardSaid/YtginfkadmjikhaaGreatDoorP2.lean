/- P2: Pb: lists of hands, of mails; worlds: new, compared; mail checked. Pc: worlds checked. Pd: worlds copied. -/
import Derived.Test.YtginfkadmjikhaaGreatDoorX5
import Derived.Test.YtginfkadmjikhaaGreatDoorRd3
import Derived.Test.YtginfkadmjikhaaGreatDoorQ2
import Derived.Test.YtginfkadmjikhaaGreatDoorK1
namespace Go.Proofs.YtginfkadmjikhaaGreatDoor.E
open Go.RowKit Go.Proofs
set_option linter.unusedVariables false
set_option linter.unusedSimpArgs false
set_option maxRecDepth 100000
set_option maxHeartbeats 2000000
theorem clone_hands (rows : List (List AV)) (hlen : rows.length ≤ 100000000) (hp : plainNews [⟨79, 8, rows⟩] = true) : C Tryz.prog 80 [.lst false 8 rows] (.own 0 0 rows.length) [⟨79, 8, rows⟩] := by
  cases rows with
  | nil =>
    have h1 : C Tryz.prog 80 [.nilv] .nl [] := by
      refine C_inline [] Tryz.func80 (fun _ _ => by kernel_rfl) rfl (by kernel_rfl) (by rfl) (by decide) (by rfl) (by rfl) (by rfl) ?_
      simp -dsimp -implicitDefEqProofs [initT]
      exact ⟨⟨_, rfl, Sub.refl _⟩, rfl⟩
    have h2 : C Tryz.prog 80 [.nn] (.own 0 0 0) [⟨79, 8, []⟩] := by
      refine C_inline [20] Tryz.func80 (fun _ _ => by kernel_rfl) rfl (by kernel_rfl) (by rfl) (by decide) (by rfl) (by rfl) (by first | rfl | exact plain_I _ | exact plain_map (fun _ => rfl) _) ?_
      simp -dsimp -implicitDefEqProofs [initT]
      exact ⟨⟨_, rfl, Sub.refl _⟩, rfl⟩
    exact C_empty (C_nl_own h1) h2
  | cons x xs =>
    refine C_inline [20] Tryz.func80 (fun _ _ => by kernel_rfl) rfl (by kernel_rfl) (by rfl) (by decide) (by rfl) (by rfl) hp ?_
    have hw : decide (100000000 < xs.length + 1) = false := by simp at hlen ⊢; omega
    simp -dsimp -implicitDefEqProofs [initT]
    simp only [hw]
    simp -dsimp -implicitDefEqProofs
    exact ⟨⟨_, rfl, Sub.refl _⟩, rfl⟩
theorem clone_mails (rows : List (List AV)) (hlen : rows.length ≤ 100000000) (hp : plainNews [⟨107, 11, rows⟩] = true) : C Tryz.prog 81 [.lst false 11 rows] (.own 0 0 rows.length) [⟨107, 11, rows⟩] := by
  cases rows with
  | nil =>
    have h1 : C Tryz.prog 81 [.nilv] .nl [] := by
      refine C_inline [] Tryz.func81 (fun _ _ => by kernel_rfl) rfl (by kernel_rfl) (by rfl) (by decide) (by rfl) (by rfl) (by rfl) ?_
      simp -dsimp -implicitDefEqProofs [initT]
      exact ⟨⟨_, rfl, Sub.refl _⟩, rfl⟩
    have h2 : C Tryz.prog 81 [.nn] (.own 0 0 0) [⟨107, 11, []⟩] := by
      refine C_inline [20] Tryz.func81 (fun _ _ => by kernel_rfl) rfl (by kernel_rfl) (by rfl) (by decide) (by rfl) (by rfl) (by first | rfl | exact plain_I _ | exact plain_map (fun _ => rfl) _) ?_
      simp -dsimp -implicitDefEqProofs [initT]
      exact ⟨⟨_, rfl, Sub.refl _⟩, rfl⟩
    exact C_empty (C_nl_own h1) h2
  | cons x xs =>
    refine C_inline [20] Tryz.func81 (fun _ _ => by kernel_rfl) rfl (by kernel_rfl) (by rfl) (by decide) (by rfl) (by rfl) hp ?_
    have hw : decide (100000000 < xs.length + 1) = false := by simp at hlen ⊢; omega
    simp -dsimp -implicitDefEqProofs [initT]
    simp only [hw]
    simp -dsimp -implicitDefEqProofs
    exact ⟨⟨_, rfl, Sub.refl _⟩, rfl⟩
theorem world_New : C Tryz.prog 21 [] (.agg (worldC true S.World.new)) [] := by
  refine C_inline [] Tryz.func21 (fun _ _ => by kernel_rfl) rfl (by kernel_rfl) (by rfl) (by decide) (by rfl) (by rfl) (by rfl) ?_
  simp -dsimp -implicitDefEqProofs [-getElem?_pos, -List.map_append, -List.map_set, List.getElem?_cons_zero, List.getElem?_cons_succ]
  refine call_CC (hall_New) ?_
  simp -dsimp -implicitDefEqProofs [-getElem?_pos, -List.map_append, -List.map_set, List.getElem?_cons_zero, List.getElem?_cons_succ]
  refine ends_agg (.lst (by simp) (.lst (by simp) (.at (.at (.lst (by simp) (.nl (.nl (.at (.cons (own_outR rfl rfl (rows' := [[Int' 0, Bool' false, Int' 0, Int' 0, Int' 0, Int' 0, .nl, .nl], [Int' 0, Bool' false, Int' 0, Int' 0, Int' 0, Int' 0, .nl, .nl], [Int' 0, Bool' false, Int' 0, Int' 0, Int' 0, Int' 0, .nl, .nl]]) rfl rfl) (.lst (fun h => h) ?_) (.nl (.nil _)))))))))))
  have hr : SubL SubC [Int' 0, Bool' false, Int' 0, Int' 0, Int' 0, Int' 0, .nl, .nl] (handC false S.Hand.zero) := .cons (.refl _) (.cons (.refl _) (.cons (.refl _) (.cons (.refl _) (.cons (.refl _) (.cons (.refl _) (.cons .nl (.cons .nl (.nil _))))))))
  exact .cons hr (.cons hr (.cons hr .nil))
theorem world_mail (m : S.Mail) : C Tryz.prog 67 [.agg (mailC false m)] (Int' (S.checkMail m)) [] := by
  obtain ⟨back, who, seq, c, a⟩ := m
  obtain ⟨r, hr⟩ : ∃ r, S.checkMail ⟨back, who, seq, c, a⟩ = r := ⟨_, rfl⟩
  rw [hr]
  unfold S.checkMail at hr
  simp only at hr
  have cs : decide (who < 0) = true ∨ (decide (who < 0) = false ∧ (decide (who ≥ 3) = true ∨ (decide (who ≥ 3) = false ∧ (decide (seq < 1) = true ∨ (decide (seq < 1) = false ∧ (decide (40 < seq) = true ∨ decide (40 < seq) = false)))))) := by simp; omega
  rcases cs with c1 | ⟨c1, c2 | ⟨c2, c3 | ⟨c3, c4 | c4⟩⟩⟩
  · rw [if_pos (by simp at c1; omega)] at hr
    subst hr
    refine C_inline [] Tryz.func67 (fun _ _ => by kernel_rfl) rfl (by kernel_rfl) (by rfl) (by decide) (by rfl) (by rfl) (by rfl) ?_
    simp -dsimp -implicitDefEqProofs [-getElem?_pos, -List.map_append, -List.map_set, List.getElem?_cons_zero, List.getElem?_cons_succ, c1]
    exact ends_int rfl
  · rw [if_pos (by simp at c1 c2; omega)] at hr
    subst hr
    refine C_inline [] Tryz.func67 (fun _ _ => by kernel_rfl) rfl (by kernel_rfl) (by rfl) (by decide) (by rfl) (by rfl) (by rfl) ?_
    simp at c2
    simp -dsimp -implicitDefEqProofs [-getElem?_pos, -List.map_append, -List.map_set, List.getElem?_cons_zero, List.getElem?_cons_succ, c1, c2]
    exact ends_int rfl
  · rw [if_pos (by simp at c1 c2 c3; omega)] at hr
    subst hr
    refine C_inline [] Tryz.func67 (fun _ _ => by kernel_rfl) rfl (by kernel_rfl) (by rfl) (by decide) (by rfl) (by rfl) (by rfl) ?_
    simp at c2
    simp -dsimp -implicitDefEqProofs [-getElem?_pos, -List.map_append, -List.map_set, List.getElem?_cons_zero, List.getElem?_cons_succ, c1, c2, c3]
    exact ends_int rfl
  · rw [if_pos (by simp at c1 c2 c3 c4; omega)] at hr
    subst hr
    refine C_inline [] Tryz.func67 (fun _ _ => by kernel_rfl) rfl (by kernel_rfl) (by rfl) (by decide) (by rfl) (by rfl) (by rfl) ?_
    simp at c2
    simp -dsimp -implicitDefEqProofs [-getElem?_pos, -List.map_append, -List.map_set, List.getElem?_cons_zero, List.getElem?_cons_succ, c1, c2, c3, c4]
    exact ends_int rfl
  rw [if_neg (by simp at c1 c2 c3 c4; omega)] at hr
  have c2' : decide (3 ≤ who) = false := by simpa using c2
  cases back with
  | true =>
    rw [if_pos rfl] at hr
    by_cases h1 : c = S.Cmd.zero
    · rw [if_neg (by simp [h1])] at hr
      have h1' : decide (c = S.Cmd.zero) = true := by simp [h1]
      have k1 := hid (cmd_Same0 c)
      rw [h1'] at k1
      replace hr := hid hr
      refine C_inline [] Tryz.func67 (fun _ _ => by kernel_rfl) rfl (by kernel_rfl) (by rfl) (by decide) (by rfl) (by rfl) (by rfl) ?_
      simp -dsimp -implicitDefEqProofs [-getElem?_pos, -List.map_append, -List.map_set, List.getElem?_cons_zero, List.getElem?_cons_succ, c1, c2, c2', c3, c4]
      refine call_CC (k1.out) ?_
      simp -dsimp -implicitDefEqProofs [-getElem?_pos, -List.map_append, -List.map_set, List.getElem?_cons_zero, List.getElem?_cons_succ]
      refine call_CC (desk_CheckAnswer a) ?_
      simp -dsimp -implicitDefEqProofs [-getElem?_pos, -List.map_append, -List.map_set, List.getElem?_cons_zero, List.getElem?_cons_succ]
      exact ends_int hr.out
    · rw [if_pos h1] at hr
      have h1' : decide (c = S.Cmd.zero) = false := by simp [h1]
      have k1 := hid (cmd_Same0 c)
      rw [h1'] at k1
      subst hr
      refine C_inline [] Tryz.func67 (fun _ _ => by kernel_rfl) rfl (by kernel_rfl) (by rfl) (by decide) (by rfl) (by rfl) (by rfl) ?_
      simp -dsimp -implicitDefEqProofs [-getElem?_pos, -List.map_append, -List.map_set, List.getElem?_cons_zero, List.getElem?_cons_succ, c1, c2, c2', c3, c4]
      refine call_CC (k1.out) ?_
      simp -dsimp -implicitDefEqProofs [-getElem?_pos, -List.map_append, -List.map_set, List.getElem?_cons_zero, List.getElem?_cons_succ]
      exact ends_int rfl
  | false =>
    rw [if_neg (by simp)] at hr
    by_cases h1 : a = S.Answer.zero
    · rw [if_neg (by simp [h1])] at hr
      have h1' : decide (a = S.Answer.zero) = true := by simp [h1]
      have k1 := hid (desk_SameAnswer0 a)
      rw [h1'] at k1
      have k2 := hid (note_Check ⟨who, seq, c⟩)
      rw [hr] at k2
      replace hr := hid hr
      refine C_inline [] Tryz.func67 (fun _ _ => by kernel_rfl) rfl (by kernel_rfl) (by rfl) (by decide) (by rfl) (by rfl) (by rfl) ?_
      simp -dsimp -implicitDefEqProofs [-getElem?_pos, -List.map_append, -List.map_set, List.getElem?_cons_zero, List.getElem?_cons_succ, c1, c2, c2', c3, c4]
      refine call_CC (k1.out) ?_
      simp -dsimp -implicitDefEqProofs [-getElem?_pos, -List.map_append, -List.map_set, List.getElem?_cons_zero, List.getElem?_cons_succ]
      refine call_CC (k2.out) ?_
      simp -dsimp -implicitDefEqProofs [-getElem?_pos, -List.map_append, -List.map_set, List.getElem?_cons_zero, List.getElem?_cons_succ]
      exact ends_int rfl
    · rw [if_pos h1] at hr
      have h1' : decide (a = S.Answer.zero) = false := by simp [h1]
      have k1 := hid (desk_SameAnswer0 a)
      rw [h1'] at k1
      subst hr
      refine C_inline [] Tryz.func67 (fun _ _ => by kernel_rfl) rfl (by kernel_rfl) (by rfl) (by decide) (by rfl) (by rfl) (by rfl) ?_
      simp -dsimp -implicitDefEqProofs [-getElem?_pos, -List.map_append, -List.map_set, List.getElem?_cons_zero, List.getElem?_cons_succ, c1, c2, c2', c3, c4]
      refine call_CC (k1.out) ?_
      simp -dsimp -implicitDefEqProofs [-getElem?_pos, -List.map_append, -List.map_set, List.getElem?_cons_zero, List.getElem?_cons_succ]
      exact ends_int rfl
theorem hand_CopyS (h : S.Hand) (hs : smallHand h) : C Tryz.prog 105 [.agg (handC false h)] (.agg (handC true h)) [] :=
  C.show (hand_Copy h hs.1 hs.2.1 hs.2.2) (r1 := .agg [Int' h.seq, Bool' h.waits, Int' h.c.kind, Int' h.c.z, Int' h.c.n, Int' h.c.pos, .lst true 1 (I h.c.d), .lst true 3 (h.got.map (ansC false))])
    (by
      have := own_answers (h := heapOf [⟨66, 3, h.got.map (ansC true)⟩]) (i := 0) (n := h.got.length) (ty := 66) (xs := h.got) rfl rfl
      show ((_ : List AV).mapM (outLeaf _ [])).map AV.agg = _
      simp only [List.mapM_cons, List.mapM_nil, this]
      rfl) (Sub.refl _) rfl
end Go.Proofs.YtginfkadmjikhaaGreatDoor.E
namespace Go.Proofs.YtginfkadmjikhaaGreatDoor.E
open Go.RowKit Go.Proofs
set_option linter.unusedVariables false
set_option linter.unusedSimpArgs false
set_option maxRecDepth 100000
set_option maxHeartbeats 2000000
theorem replay0_eq {w : S.Hall} {e : Int} (h : S.replay [] = (w, e)) : C Tryz.prog 46 [.nl] (.tup [.agg (hallC true w), Int' e]) [] := by
  have := hall_Replay []
  rw [h] at this
  exact this.args (.cons (.leaf .nl) (.nil _))
theorem replay1_eq {l : List S.Rec} {w : S.Hall} {e : Int} (h : S.replay l = (w, e)) : C Tryz.prog 46 [.lst false 7 (l.map (recC false))] (.tup [.agg (hallC true w), Int' e]) [] := by
  have := hall_Replay l
  rw [h] at this
  exact this
theorem hall_Same_eq {a b : S.Hall} {r : Bool} (h : decide (a = b) = r) : C Tryz.prog 39 [.agg (hallC false a), .agg (hallC false b)] (Bool' r) [] := h ▸ hall_Same a b
theorem world_Check (w : S.World) : C Tryz.prog 18 [.agg (worldC false w)] (Int' (S.checkWorld w)) [] := by
  obtain ⟨H, d, up, hand, mail⟩ := w
  obtain ⟨r, hr⟩ : ∃ r, S.checkWorld ⟨H, d, up, hand, mail⟩ = r := ⟨_, rfl⟩
  rw [hr]
  unfold S.checkWorld at hr
  simp only at hr
  by_cases h1 : hand.length = 3
  rotate_left
  · rw [if_pos h1] at hr
    subst hr
    have h1' : decide ((hand.length : Int) = 3) = false := by simp; omega
    have h1'' : decide (hand.length = 3) = false := by simp; omega
    refine C_inline [] Tryz.func18 (fun _ _ => by kernel_rfl) rfl (by kernel_rfl) (by rfl) (by decide) (by rfl) (by rfl) (by rfl) ?_
    simp -dsimp -implicitDefEqProofs [-getElem?_pos, -List.map_append, -List.map_set, List.getElem?_cons_zero, List.getElem?_cons_succ, h1', h1'']
    exact ends_int rfl
  rw [if_neg (by simp [h1])] at hr
  have h1' : decide ((hand.length : Int) = 3) = true := by simp; omega
  have h1'' : decide (hand.length = 3) = true := by simp; omega
  by_cases h2 : 30 < mail.length
  · rw [if_pos h2] at hr
    subst hr
    have h2' : decide ((30 : Int) < (mail.length : Int)) = true := by simp; omega
    have h2'' : decide (30 < mail.length) = true := by simp; omega
    refine C_inline [] Tryz.func18 (fun _ _ => by kernel_rfl) rfl (by kernel_rfl) (by rfl) (by decide) (by rfl) (by rfl) (by rfl) ?_
    simp -dsimp -implicitDefEqProofs [-getElem?_pos, -List.map_append, -List.map_set, List.getElem?_cons_zero, List.getElem?_cons_succ, h1', h1'', h2', h2'']
    exact ends_int rfl
  rw [if_neg h2] at hr
  have h2' : decide ((30 : Int) < (mail.length : Int)) = false := by simp; omega
  have h2'' : decide (30 < mail.length) = false := by simp; omega
  have hrm : S.firstBad S.checkMail mail ≠ 0 → S.firstBad S.checkMail mail = r := fun g => by rw [if_pos g] at hr; exact hr
  replace hrm := hid hrm
  replace hr := hid hr
  refine C_inline [] Tryz.func18 (fun _ _ => by kernel_rfl) rfl (by kernel_rfl) (by rfl) (by decide) (by rfl) (by rfl) (by rfl) ?_
  simp -dsimp -implicitDefEqProofs [-getElem?_pos, -List.map_append, -List.map_set, List.getElem?_cons_zero, List.getElem?_cons_succ, h1', h1'', h2', h2'']
  refine loop_count 24 mail.length (fun k h m _ => h 0 = some ⟨37, 10, [worldC false ⟨H, d, up, hand, mail⟩]⟩ ∧ (∃ d, m = d + 56) ∧ Hid (∀ (j : Nat) (x : S.Mail), j < k → mail[j]? = some x → S.checkMail x = 0)) _ rfl (by rfl) ⟨rfl, ⟨0, rfl⟩, by intro j x hj; omega⟩ ?_ ?_
  · rintro k t h m hk hci hs ⟨h0, ⟨dd, rfl⟩, hb⟩
    have hw : IntKind.i64.wrap ((k : Int) + 1) = (k : Int) + 1 := wrap_ok (by omega)
    obtain ⟨x, hx⟩ : ∃ x, mail[k]? = some x := ⟨mail[k], by simp⟩
    have hk' : decide (k < mail.length) = true := by simp [hk]
    have e1 := hs 1 rfl
    have e22 := hs 22 rfl
    have e23 := hs 23 rfl
    clear hs
    simp -dsimp -implicitDefEqProofs at e1 e22 e23
    replace hk := hid hk
    obtain ⟨q, hq⟩ : ∃ q, S.checkMail x = q := ⟨_, rfl⟩
    have hbad : q ≠ 0 → q = r := fun g => by rw [← hrm.out (by rw [firstBad_at hb.out hx (by rw [hq]; exact g), hq]; exact g), firstBad_at hb.out hx (by rw [hq]; exact g), hq]
    have hgood : q = 0 → ∀ (j : Nat) (y : S.Mail), j < k + 1 → mail[j]? = some y → S.checkMail y = 0 := fun g => upto_succ hb.out hx (by rw [hq]; exact g)
    replace hbad := hid hbad
    replace hgood := hid hgood
    have cm := hid (hq ▸ world_mail x)
    clear hb hq
    by_cases hq0 : q = 0
    · have hg := hgood.out hq0
      subst hq0
      clear hbad hgood
      simp -dsimp -implicitDefEqProofs [-getElem?_pos, -List.map_append, -List.map_set, List.getElem?_cons_zero, List.getElem?_cons_succ, e1, e22, e23, hci, hk', hx, h0]
      refine call_CC (cm.out) ?_
      simp -dsimp -implicitDefEqProofs [-getElem?_pos, -List.map_append, -List.map_set, List.getElem?_cons_zero, List.getElem?_cons_succ, e1, e22, e23, hci, hw, h0]
      exact hg
    · have := hbad.out hq0
      clear hbad hgood
      simp -dsimp -implicitDefEqProofs [-getElem?_pos, -List.map_append, -List.map_set, List.getElem?_cons_zero, List.getElem?_cons_succ, e1, e22, e23, hci, hk', hx, h0]
      refine call_CC (cm.out) ?_
      simp -dsimp -implicitDefEqProofs [-getElem?_pos, -List.map_append, -List.map_set, List.getElem?_cons_zero, List.getElem?_cons_succ, e1, e22, e23, hci, hq0, h0]
      exact ends_int this
  · rintro t h m hci hs ⟨h0, ⟨dd, rfl⟩, hb⟩
    have hfb := firstBad_none (f := S.checkMail) (xs := mail) hb.out
    clear hb hrm
    have hr2 := hr.out
    rw [hfb, if_neg (by simp)] at hr2
    clear hr hfb
    have e1 := hs 1 rfl
    have e22 := hs 22 rfl
    have e23 := hs 23 rfl
    clear hs
    simp -dsimp -implicitDefEqProofs at e1 e22 e23
    obtain ⟨⟨X, L, e⟩, hR⟩ : ∃ q, S.recoverDisk d = q := ⟨_, rfl⟩
    have hhr : S.heard ⟨H, d, up, hand, mail⟩ = if up = true then L else [] := by
      unfold S.heard
      simp only [hR]
    rw [hhr, hR] at hr2
    have cr := hid (recover_eq hR)
    clear hhr hR
    simp only at hr2
    by_cases he : e = 0
    rotate_left
    · rw [if_pos he] at hr2
      subst hr2
      simp -dsimp -implicitDefEqProofs [-getElem?_pos, -List.map_append, -List.map_set, List.getElem?_cons_zero, List.getElem?_cons_succ, e1, e22, e23, hci, h0]
      refine call_CC (cr.out) ?_
      simp -dsimp -implicitDefEqProofs [-getElem?_pos, -List.map_append, -List.map_set, List.getElem?_cons_zero, List.getElem?_cons_succ, e1, e22, e23, he, h0]
      exact ends_int rfl
    rw [if_neg (by simp [he])] at hr2
    subst he
    by_cases hu : up = true ∧ 0 < d.wait.length
    · rw [if_pos hu] at hr2
      obtain ⟨rfl, hu2⟩ := hu
      subst hr2
      have g1 : decide (0 < d.wait.length) = true := by simp; omega
      simp -dsimp -implicitDefEqProofs [-getElem?_pos, -List.map_append, -List.map_set, List.getElem?_cons_zero, List.getElem?_cons_succ, e1, e22, e23, hci, h0]
      refine call_CC (cr.out) ?_
      simp -dsimp -implicitDefEqProofs [-getElem?_pos, -List.map_append, -List.map_set, List.getElem?_cons_zero, List.getElem?_cons_succ, e1, e22, e23, h0, g1]
      exact ends_int rfl
    rw [if_neg hu] at hr2
    obtain ⟨⟨G, f⟩, hG⟩ : ∃ q, S.replay (if up = true then L else []) = q := ⟨_, rfl⟩
    rw [hG] at hr2
    simp only at hr2
    have hgu : up = true → decide (0 < d.wait.length) = false := fun g => by
      simp; exact List.eq_nil_of_length_eq_zero (by
        by_cases g2 : 0 < d.wait.length
        · exact absurd ⟨g, g2⟩ hu
        · omega)
    replace hgu := hid hgu
    clear hu
    cases up with
    | true =>
      rw [if_pos rfl] at hG
      have cp := hid (replay1_eq hG)
      have g1 := hgu.out rfl
      clear hG hgu
      by_cases hf : f = 0
      rotate_left
      · rw [if_pos hf] at hr2
        subst hr2
        simp -dsimp -implicitDefEqProofs [-getElem?_pos, -List.map_append, -List.map_set, List.getElem?_cons_zero, List.getElem?_cons_succ, e1, e22, e23, hci, h0]
        refine call_CC (cr.out) ?_
        simp -dsimp -implicitDefEqProofs [-getElem?_pos, -List.map_append, -List.map_set, List.getElem?_cons_zero, List.getElem?_cons_succ, e1, e22, e23, h0, g1]
        refine call_CC (cp.out) ?_
        simp -dsimp -implicitDefEqProofs [-getElem?_pos, -List.map_append, -List.map_set, List.getElem?_cons_zero, List.getElem?_cons_succ, e1, e22, e23, h0, hf]
        exact ends_int rfl
      rw [if_neg (by simp [hf])] at hr2
      subst hf
      by_cases hGH : G = H
      rotate_left
      · rw [if_pos hGH] at hr2
        subst hr2
        have cs := hid (hall_Same_eq (a := G) (b := H) (r := false) (by simp [hGH]))
        simp -dsimp -implicitDefEqProofs [-getElem?_pos, -List.map_append, -List.map_set, List.getElem?_cons_zero, List.getElem?_cons_succ, e1, e22, e23, hci, h0]
        refine call_CC (cr.out) ?_
        simp -dsimp -implicitDefEqProofs [-getElem?_pos, -List.map_append, -List.map_set, List.getElem?_cons_zero, List.getElem?_cons_succ, e1, e22, e23, h0, g1]
        refine call_CC (cp.out) ?_
        simp -dsimp -implicitDefEqProofs [-getElem?_pos, -List.map_append, -List.map_set, List.getElem?_cons_zero, List.getElem?_cons_succ, e1, e22, e23, h0]
        refine call_CC (cs.out) ?_
        simp -dsimp -implicitDefEqProofs [-getElem?_pos, -List.map_append, -List.map_set, List.getElem?_cons_zero, List.getElem?_cons_succ, e1, e22, e23, h0]
        exact ends_int rfl
      rw [if_neg (by simp [hGH])] at hr2
      have cs := hid (hall_Same_eq (a := G) (b := H) (r := true) (by simp [hGH]))
      clear hGH
      replace hr2 := hid hr2
      simp -dsimp -implicitDefEqProofs [-getElem?_pos, -List.map_append, -List.map_set, List.getElem?_cons_zero, List.getElem?_cons_succ, e1, e22, e23, hci, h0]
      refine call_CC (cr.out) ?_
      simp -dsimp -implicitDefEqProofs [-getElem?_pos, -List.map_append, -List.map_set, List.getElem?_cons_zero, List.getElem?_cons_succ, e1, e22, e23, h0, g1]
      refine call_CC (cp.out) ?_
      simp -dsimp -implicitDefEqProofs [-getElem?_pos, -List.map_append, -List.map_set, List.getElem?_cons_zero, List.getElem?_cons_succ, e1, e22, e23, h0]
      refine call_CC (cs.out) ?_
      simp -dsimp -implicitDefEqProofs [-getElem?_pos, -List.map_append, -List.map_set, List.getElem?_cons_zero, List.getElem?_cons_succ, e1, e22, e23, h0]
      clear cr cp cs h0 e1 e22 e23 hci
      refine loop_count 72 hand.length (fun k h m _ => (∃ d, m = d + 56) ∧ Hid (∀ (j : Nat) (x : S.Hand), j < k → hand[j]? = some x → S.checkHand x = 0)) _ rfl (by rfl) ⟨⟨_, by simp only [Nat.add_assoc, Nat.add_comm, Nat.add_left_comm]; rfl⟩, by intro j x hj; omega⟩ ?_ ?_
      · rintro k t h m hk hci hs ⟨⟨dd, rfl⟩, hb⟩
        have hw : IntKind.i64.wrap ((k : Int) + 1) = (k : Int) + 1 := wrap_ok (by omega)
        obtain ⟨x, hx⟩ : ∃ x, hand[k]? = some x := ⟨hand[k], by simp⟩
        have hk' : decide (k < hand.length) = true := by simp [hk]
        have e70 := hs 70 rfl
        have e71 := hs 71 rfl
        clear hs
        simp -dsimp -implicitDefEqProofs at e70 e71
        replace hk := hid hk
        obtain ⟨q, hq⟩ : ∃ q, S.checkHand x = q := ⟨_, rfl⟩
        have hbad : q ≠ 0 → q = r := fun g => by rw [← hr2.out, firstBad_at hb.out hx (by rw [hq]; exact g), hq]
        have hgood : q = 0 → ∀ (j : Nat) (y : S.Hand), j < k + 1 → hand[j]? = some y → S.checkHand y = 0 := fun g => upto_succ hb.out hx (by rw [hq]; exact g)
        replace hbad := hid hbad
        replace hgood := hid hgood
        have cm := hid (hq ▸ hand_Check x)
        clear hb hq
        by_cases hq0 : q = 0
        · have hg := hgood.out hq0
          subst hq0
          clear hbad hgood
          simp -dsimp -implicitDefEqProofs [-getElem?_pos, -List.map_append, -List.map_set, List.getElem?_cons_zero, List.getElem?_cons_succ, e70, e71, hci, hk', hx]
          refine call_CC (cm.out) ?_
          simp -dsimp -implicitDefEqProofs [-getElem?_pos, -List.map_append, -List.map_set, List.getElem?_cons_zero, List.getElem?_cons_succ, e70, e71, hci, hw]
          exact hg
        · have := hbad.out hq0
          clear hbad hgood
          simp -dsimp -implicitDefEqProofs [-getElem?_pos, -List.map_append, -List.map_set, List.getElem?_cons_zero, List.getElem?_cons_succ, e70, e71, hci, hk', hx]
          refine call_CC (cm.out) ?_
          simp -dsimp -implicitDefEqProofs [-getElem?_pos, -List.map_append, -List.map_set, List.getElem?_cons_zero, List.getElem?_cons_succ, e70, e71, hci, hq0]
          exact ends_int this
      · rintro t h m hci hs ⟨⟨dd, rfl⟩, hb⟩
        have hfb := firstBad_none (f := S.checkHand) (xs := hand) hb.out
        have e70 := hs 70 rfl
        have e71 := hs 71 rfl
        clear hs
        simp -dsimp -implicitDefEqProofs at e70 e71
        simp -dsimp -implicitDefEqProofs [-getElem?_pos, -List.map_append, -List.map_set, List.getElem?_cons_zero, List.getElem?_cons_succ, e70, e71, hci]
        exact ends_int (by rw [← hr2.out, hfb])
    | false =>
      rw [if_neg (by simp)] at hG
      have cp := hid (replay0_eq hG)
      clear hG hgu
      by_cases hf : f = 0
      rotate_left
      · rw [if_pos hf] at hr2
        subst hr2
        simp -dsimp -implicitDefEqProofs [-getElem?_pos, -List.map_append, -List.map_set, List.getElem?_cons_zero, List.getElem?_cons_succ, e1, e22, e23, hci, h0]
        refine call_CC (cr.out) ?_
        simp -dsimp -implicitDefEqProofs [-getElem?_pos, -List.map_append, -List.map_set, List.getElem?_cons_zero, List.getElem?_cons_succ, e1, e22, e23, h0]
        refine call_CC (cp.out) ?_
        simp -dsimp -implicitDefEqProofs [-getElem?_pos, -List.map_append, -List.map_set, List.getElem?_cons_zero, List.getElem?_cons_succ, e1, e22, e23, h0, hf]
        exact ends_int rfl
      rw [if_neg (by simp [hf])] at hr2
      subst hf
      by_cases hGH : G = H
      rotate_left
      · rw [if_pos hGH] at hr2
        subst hr2
        have cs := hid (hall_Same_eq (a := G) (b := H) (r := false) (by simp [hGH]))
        simp -dsimp -implicitDefEqProofs [-getElem?_pos, -List.map_append, -List.map_set, List.getElem?_cons_zero, List.getElem?_cons_succ, e1, e22, e23, hci, h0]
        refine call_CC (cr.out) ?_
        simp -dsimp -implicitDefEqProofs [-getElem?_pos, -List.map_append, -List.map_set, List.getElem?_cons_zero, List.getElem?_cons_succ, e1, e22, e23, h0]
        refine call_CC (cp.out) ?_
        simp -dsimp -implicitDefEqProofs [-getElem?_pos, -List.map_append, -List.map_set, List.getElem?_cons_zero, List.getElem?_cons_succ, e1, e22, e23, h0]
        refine call_CC (cs.out) ?_
        simp -dsimp -implicitDefEqProofs [-getElem?_pos, -List.map_append, -List.map_set, List.getElem?_cons_zero, List.getElem?_cons_succ, e1, e22, e23, h0]
        exact ends_int rfl
      rw [if_neg (by simp [hGH])] at hr2
      have cs := hid (hall_Same_eq (a := G) (b := H) (r := true) (by simp [hGH]))
      clear hGH
      replace hr2 := hid hr2
      simp -dsimp -implicitDefEqProofs [-getElem?_pos, -List.map_append, -List.map_set, List.getElem?_cons_zero, List.getElem?_cons_succ, e1, e22, e23, hci, h0]
      refine call_CC (cr.out) ?_
      simp -dsimp -implicitDefEqProofs [-getElem?_pos, -List.map_append, -List.map_set, List.getElem?_cons_zero, List.getElem?_cons_succ, e1, e22, e23, h0]
      refine call_CC (cp.out) ?_
      simp -dsimp -implicitDefEqProofs [-getElem?_pos, -List.map_append, -List.map_set, List.getElem?_cons_zero, List.getElem?_cons_succ, e1, e22, e23, h0]
      refine call_CC (cs.out) ?_
      simp -dsimp -implicitDefEqProofs [-getElem?_pos, -List.map_append, -List.map_set, List.getElem?_cons_zero, List.getElem?_cons_succ, e1, e22, e23, h0]
      clear cr cp cs h0 e1 e22 e23 hci
      refine loop_count 72 hand.length (fun k h m _ => (∃ d, m = d + 56) ∧ Hid (∀ (j : Nat) (x : S.Hand), j < k → hand[j]? = some x → S.checkHand x = 0)) _ rfl (by rfl) ⟨⟨_, by simp only [Nat.add_assoc, Nat.add_comm, Nat.add_left_comm]; rfl⟩, by intro j x hj; omega⟩ ?_ ?_
      · rintro k t h m hk hci hs ⟨⟨dd, rfl⟩, hb⟩
        have hw : IntKind.i64.wrap ((k : Int) + 1) = (k : Int) + 1 := wrap_ok (by omega)
        obtain ⟨x, hx⟩ : ∃ x, hand[k]? = some x := ⟨hand[k], by simp⟩
        have hk' : decide (k < hand.length) = true := by simp [hk]
        have e70 := hs 70 rfl
        have e71 := hs 71 rfl
        clear hs
        simp -dsimp -implicitDefEqProofs at e70 e71
        replace hk := hid hk
        obtain ⟨q, hq⟩ : ∃ q, S.checkHand x = q := ⟨_, rfl⟩
        have hbad : q ≠ 0 → q = r := fun g => by rw [← hr2.out, firstBad_at hb.out hx (by rw [hq]; exact g), hq]
        have hgood : q = 0 → ∀ (j : Nat) (y : S.Hand), j < k + 1 → hand[j]? = some y → S.checkHand y = 0 := fun g => upto_succ hb.out hx (by rw [hq]; exact g)
        replace hbad := hid hbad
        replace hgood := hid hgood
        have cm := hid (hq ▸ hand_Check x)
        clear hb hq
        by_cases hq0 : q = 0
        · have hg := hgood.out hq0
          subst hq0
          clear hbad hgood
          simp -dsimp -implicitDefEqProofs [-getElem?_pos, -List.map_append, -List.map_set, List.getElem?_cons_zero, List.getElem?_cons_succ, e70, e71, hci, hk', hx]
          refine call_CC (cm.out) ?_
          simp -dsimp -implicitDefEqProofs [-getElem?_pos, -List.map_append, -List.map_set, List.getElem?_cons_zero, List.getElem?_cons_succ, e70, e71, hci, hw]
          exact hg
        · have := hbad.out hq0
          clear hbad hgood
          simp -dsimp -implicitDefEqProofs [-getElem?_pos, -List.map_append, -List.map_set, List.getElem?_cons_zero, List.getElem?_cons_succ, e70, e71, hci, hk', hx]
          refine call_CC (cm.out) ?_
          simp -dsimp -implicitDefEqProofs [-getElem?_pos, -List.map_append, -List.map_set, List.getElem?_cons_zero, List.getElem?_cons_succ, e70, e71, hci, hq0]
          exact ends_int this
      · rintro t h m hci hs ⟨⟨dd, rfl⟩, hb⟩
        have hfb := firstBad_none (f := S.checkHand) (xs := hand) hb.out
        have e70 := hs 70 rfl
        have e71 := hs 71 rfl
        clear hs
        simp -dsimp -implicitDefEqProofs at e70 e71
        simp -dsimp -implicitDefEqProofs [-getElem?_pos, -List.map_append, -List.map_set, List.getElem?_cons_zero, List.getElem?_cons_succ, e70, e71, hci]
        exact ends_int (by rw [← hr2.out, hfb])
end Go.Proofs.YtginfkadmjikhaaGreatDoor.E
namespace Go.Proofs.YtginfkadmjikhaaGreatDoor.E
open Go.RowKit Go.Proofs
set_option linter.unusedVariables false
set_option linter.unusedSimpArgs false
set_option maxRecDepth 100000
set_option maxHeartbeats 2000000
structure SmallW (w : S.World) : Prop where
  desk : Small w.h.d
  last : w.h.last.length ≤ 100000
  lasts : ∀ x, x ∈ w.h.last → x.a.d.length ≤ 100000
  safe : w.d.safe.length ≤ 100000
  wait : w.d.wait.length ≤ 100000
  hand : w.hand.length ≤ 100000
  hands : ∀ x, x ∈ w.hand → smallHand x
  mail : w.mail.length ≤ 100000
  mails : ∀ m, m ∈ w.mail → m.c.d.length ≤ 100000 ∧ m.a.d.length ≤ 100000
abbrev ownW (fr : Bool) (w : S.World) (a b : Nat) : List AV := [.lst fr 2 (w.h.d.zs.map (zoneC false)), .lst fr 1 (I w.h.d.b.k), .at (.int .i64 w.h.d.b.h), .at (.int .i64 w.h.d.b.t), .lst fr 4 (w.h.last.map (lastC false)), .lst fr 1 (B8 w.d.safe), .lst fr 1 (B8 w.d.wait), .at (.bool w.up), .own a 0 w.hand.length, .own b 0 w.mail.length]
theorem own_outK {h : Heap} {keep : List Nat} {i n : Nat} {ty : TypeId} {s : Nat} {rows rows' : List (List AV)} (hi : h i = some ⟨ty, s, rows⟩) (hk : keep.idxOf? i = none) (hc : keep.contains i = false) (hn : n = rows.length) (hm : rows.mapM (fun (r : List AV) => r.mapM (leafP h keep 2)) = some rows') (hf : (rows.all fun r => r.all freshCell) = true) : outLeaf h keep (.own i 0 n) = some (.lst true s rows') := by
  subst hn
  have e : leafP h keep 3 (.own i 0 rows.length) = some (.lst false s rows') := by
    show (if keep.contains i then none else match h i with | some e => if 0 + rows.length ≤ e.rows.length then (((e.rows.drop 0).take rows.length).mapM fun (r : List AV) => r.mapM (leafP h keep 2)).map (AV.lst false e.s ·) else none | none => none) = _
    rw [hc, hi]
    simp only [List.drop_zero]
    rw [if_neg (by simp), if_pos (by simp), List.take_of_length_le (by simp), hm]
    rfl
  show (match keep.idxOf? i with | some j => some (AV.own j 0 rows.length) | none => match h i, leafP h keep 3 (.own i 0 rows.length) with | some e, some (.lst _ s rows) => some (AV.lst (e.rows.all fun r => r.all freshCell) s rows) | _, _ => none) = _
  rw [hk, e, hi]
  simp only [hf]
theorem clone_bytesS (xs : List UInt8) (hlen : xs.length ≤ 100000000) : C Tryz.prog 104 [.lst false 1 (B8 xs)] (.lst true 1 (B8 xs)) [] := by
  refine C.show (clone_bytes xs hlen) (r1 := .lst true 1 (B8 xs)) ?_ (Sub.refl _) rfl
  have := own_outR (h := heapOf [⟨5, 1, B8 xs⟩]) (i := 0) (n := xs.length) (ty := 5) (s := 1) (rows := B8 xs) (rows' := B8 xs) rfl (by simp) (mapM_map (f := fun b : UInt8 => [AV.at (.int .u8 b.toNat)]) (g := fun (r : List AV) => r.mapM (leafP _ [] 2)) (e := fun b : UInt8 => [AV.at (.int .u8 b.toNat)]) (fun _ => rfl) xs) (by simp [B8, freshCell])
  exact this
theorem world_Copy (w : S.World) (hs : SmallW w) : C Tryz.prog 59 [.agg (worldC false w)] (.agg (ownW true w 0 1)) [⟨79, 8, w.hand.map (handC true)⟩, ⟨107, 11, w.mail.map (mailC true)⟩] := by
  obtain ⟨H, d, up, hand, mail⟩ := w
  obtain ⟨s1, s2, s3, s4, s5, s6, s7, s8, s9⟩ := hs
  simp only at s1 s2 s3 s4 s5 s6 s7 s8 s9
  have c1 := hid (hall_Copy H.d H.last s1 s2 s3)
  have c2 := clone_hands (hand.map (handC false)) (by simp; omega) (plain_map (fun _ => rfl) _)
  have c3 := clone_mails (mail.map (mailC false)) (by simp; omega) (plain_map (fun _ => rfl) _)
  simp only [List.length_map] at c2 c3
  have c4 := hid (clone_bytesS d.safe (by omega))
  have c5 := hid (clone_bytesS d.wait (by omega))
  replace c2 := hid c2
  replace c3 := hid c3
  replace s6 := hid s6
  replace s7 := hid s7
  replace s8 := hid s8
  replace s9 := hid s9
  clear s1 s2 s3 s4 s5
  refine C_inlineG [(11, [55065])] [28, 40] Tryz.func59 (fun _ _ => by kernel_rfl) rfl (by kernel_rfl) (by rfl) (by decide) (by rfl) (by rfl) (by
    simp only [plainNews, List.all_cons, List.all_nil, Bool.and_true, List.all_map, Bool.and_eq_true]
    exact ⟨List.all_eq_true.2 fun x _ => rfl, List.all_eq_true.2 fun x _ => rfl⟩) ?_
  simp -dsimp -implicitDefEqProofs [-getElem?_pos, -List.map_append, -List.map_set, List.getElem?_cons_zero, List.getElem?_cons_succ]
  refine call_CC (c1.out) ?_
  simp -dsimp -implicitDefEqProofs [-getElem?_pos, -List.map_append, -List.map_set, List.getElem?_cons_zero, List.getElem?_cons_succ]
  refine call_CC (c2.out) ?_
  simp -dsimp -implicitDefEqProofs [-getElem?_pos, -List.map_append, -List.map_set, List.getElem?_cons_zero, List.getElem?_cons_succ]
  refine call_CC (c3.out) ?_
  simp -dsimp -implicitDefEqProofs [-getElem?_pos, -List.map_append, -List.map_set, List.getElem?_cons_zero, List.getElem?_cons_succ]
  refine call_CC (c4.out) ?_
  simp -dsimp -implicitDefEqProofs [-getElem?_pos, -List.map_append, -List.map_set, List.getElem?_cons_zero, List.getElem?_cons_succ]
  refine call_CC (c5.out) ?_
  simp -dsimp -implicitDefEqProofs [-getElem?_pos, -List.map_append, -List.map_set, List.getElem?_cons_zero, List.getElem?_cons_succ]
  refine loop_count 32 hand.length (fun k h m _ => h 0 = some ⟨37, 10, [[.lst true 2 (H.d.zs.map (zoneC false)), .lst true 1 (I H.d.b.k), Int' H.d.b.h, Int' H.d.b.t, .own 16 0 H.last.length, .lst true 1 (B8 d.safe), .lst true 1 (B8 d.wait), Bool' up, .own 28 0 hand.length, .own 40 0 mail.length]]⟩ ∧ h 16 = some ⟨129, 4, H.last.map (lastC true)⟩ ∧ h 28 = some ⟨79, 8, mix (handC true) (handC false) hand k⟩ ∧ h 40 = some ⟨107, 11, mail.map (mailC false)⟩ ∧ h 4 = some ⟨37, 10, [[.nl, .nl, Int' 0, Int' 0, .nl, .nl, .nl, Bool' false, .nl, .nl]]⟩ ∧ ∃ d, m = d + 128) _ rfl (by rfl) ?_ ?_ ?_
  · simp -dsimp -implicitDefEqProofs
  · rintro k t h m hk hci hs ⟨h0, h16, h28, h40, h4, dd, rfl⟩
    have hw : IntKind.i64.wrap ((k : Int) + 1) = (k : Int) + 1 := wrap_ok (by have := s6.out; omega)
    obtain ⟨x, hx⟩ : ∃ x, hand[k]? = some x := ⟨hand[k], by simp⟩
    have hk' : decide (k < hand.length) = true := by simp [hk]
    have hm := mix_get (f := handC true) (g := handC false) hx
    have e1 := hs 1 rfl
    have e2 := hs 2 rfl
    have e30 := hs 30 rfl
    have e31 := hs 31 rfl
    clear hs
    simp -dsimp -implicitDefEqProofs at e1 e2 e30 e31
    have cp := hid (hand_CopyS x (s7.out x (List.mem_of_getElem? hx)))
    have hms := mix_set (f := handC true) (g := handC false) hx
    simp -dsimp -implicitDefEqProofs [-getElem?_pos, -List.map_append, -List.map_set, List.getElem?_cons_zero, List.getElem?_cons_succ, e1, e2, e30, e31, hci, hk', hm, h0, h16, h28, h40, h4, hk]
    refine call_CC (cp.out) ?_
    simp -dsimp -implicitDefEqProofs [-getElem?_pos, -List.map_append, -List.map_set, List.getElem?_cons_zero, List.getElem?_cons_succ, e1, e2, e30, e31, hci, hw, hm, hms, h0, h16, h28, h40, h4, hk]
  · rintro t h m hci hs ⟨h0, h16, h28, h40, h4, dd, rfl⟩
    have e1 := hs 1 rfl
    have e2 := hs 2 rfl
    have e30 := hs 30 rfl
    have e31 := hs 31 rfl
    clear hs
    simp -dsimp -implicitDefEqProofs at e1 e2 e30 e31
    simp -dsimp -implicitDefEqProofs [-getElem?_pos, -List.map_append, -List.map_set, List.getElem?_cons_zero, List.getElem?_cons_succ, e1, e2, e30, e31, hci, h0, h16, h28, h40, h4]
    refine loop_count 47 mail.length (fun k h m _ => h 0 = some ⟨37, 10, [[.lst true 2 (H.d.zs.map (zoneC false)), .lst true 1 (I H.d.b.k), Int' H.d.b.h, Int' H.d.b.t, .own 16 0 H.last.length, .lst true 1 (B8 d.safe), .lst true 1 (B8 d.wait), Bool' up, .own 28 0 hand.length, .own 40 0 mail.length]]⟩ ∧ h 16 = some ⟨129, 4, H.last.map (lastC true)⟩ ∧ h 28 = some ⟨79, 8, hand.map (handC true)⟩ ∧ h 40 = some ⟨107, 11, mix (mailC true) (mailC false) mail k⟩ ∧ h 4 = some ⟨37, 10, [[.nl, .nl, Int' 0, Int' 0, .nl, .nl, .nl, Bool' false, .nl, .nl]]⟩ ∧ ∃ d, m = d + 128) _ rfl (by rfl) ?_ ?_ ?_
    · simp -dsimp -implicitDefEqProofs [h0, h16, h28, h40, h4]
    · have f1 := e1
      have f2 := e2
      clear h0 h16 h28 h40 h4 hci e1 e2 e30 e31
      rintro k t h m hk hci hs ⟨h0, h16, h28, h40, h4, dd, rfl⟩
      have hw : IntKind.i64.wrap ((k : Int) + 1) = (k : Int) + 1 := wrap_ok (by have := s8.out; omega)
      obtain ⟨x, hx⟩ : ∃ x, mail[k]? = some x := ⟨mail[k], by simp⟩
      have hk' : decide (k < mail.length) = true := by simp [hk]
      have hm := mix_get (f := mailC true) (g := mailC false) hx
      have e1 := hs 1 rfl
      have e2 := hs 2 rfl
      have e45 := hs 45 rfl
      have e46 := hs 46 rfl
      clear hs
      simp -dsimp -implicitDefEqProofs at e1 e2 e45 e46
      have hx9 := s9.out x (List.mem_of_getElem? hx)
      have cp := hid (cmd_Copy x.c (by omega))
      have ca := hid (desk_CopyAnswer x.a (by omega))
      have hms := mix_set (f := mailC true) (g := mailC false) hx
      clear hx9
      simp -dsimp -implicitDefEqProofs [-getElem?_pos, -List.map_append, -List.map_set, List.getElem?_cons_zero, List.getElem?_cons_succ, e1, e2, e45, e46, f1, f2, hci, hk', hm, h0, h16, h28, h40, h4, hk]
      refine call_CC (cp.out) ?_
      simp -dsimp -implicitDefEqProofs [-getElem?_pos, -List.map_append, -List.map_set, List.getElem?_cons_zero, List.getElem?_cons_succ, e1, e2, e45, e46, f1, f2, hci, hw, hm, hms, h0, h16, h28, h40, h4, hk]
      refine call_CC (ca.out) ?_
      simp -dsimp -implicitDefEqProofs [-getElem?_pos, -List.map_append, -List.map_set, List.getElem?_cons_zero, List.getElem?_cons_succ, e1, e2, e45, e46, f1, f2, hci, hw, hm, hms, h0, h16, h28, h40, h4, hk]
    · have f1 := e1
      have f2 := e2
      clear h0 h16 h28 h40 h4 hci e1 e2 e30 e31
      rintro t h m hci hs ⟨h0, h16, h28, h40, h4, dd, rfl⟩
      have e1 := hs 1 rfl
      have e2 := hs 2 rfl
      have e45 := hs 45 rfl
      have e46 := hs 46 rfl
      clear hs
      simp -dsimp -implicitDefEqProofs at e1 e2 e45 e46
      simp -dsimp -implicitDefEqProofs [-getElem?_pos, -List.map_append, -List.map_set, List.getElem?_cons_zero, List.getElem?_cons_succ, e1, e2, e45, e46, f1, f2, hci, h0, h16, h28, h40, h4]
      refine ⟨⟨_, ?_, Sub.refl _⟩, ?_⟩
      · have ho := own_outK (h := upd h 4 (some ⟨37, 10, [[.lst true 2 (H.d.zs.map (zoneC false)), .lst true 1 (I H.d.b.k), Int' H.d.b.h, Int' H.d.b.t, .own 16 0 H.last.length, .lst true 1 (B8 d.safe), .lst true 1 (B8 d.wait), Bool' up, .own 28 0 hand.length, .own 40 0 mail.length]]⟩)) (keep := [28, 40]) (i := 16) (n := H.last.length) (ty := 129) (s := 4) (rows := H.last.map (lastC true)) (rows' := H.last.map (lastC false)) (by rw [upd_ne _ _ (by decide)]; exact h16) rfl rfl (by simp) (mapM_map (f := lastC true) (g := fun (r : List AV) => r.mapM (leafP _ [28, 40] 2)) (e := lastC false) (fun _ => rfl) _) (by simp [freshCell])
        show ((_ : List AV).mapM (outLeaf _ [28, 40])).map AV.agg = _
        simp only [List.mapM_cons, List.mapM_nil, ho]
        rfl
      · simp [upd, h28, h40]
end Go.Proofs.YtginfkadmjikhaaGreatDoor.E
