/- P4: Pg: mail is heard in a world of one's own. Ph: what happens in a world of one's own; world.Do. -/
import Derived.Test.YtginfkadmjikhaaGreatDoorP3
import Derived.Test.YtginfkadmjikhaaGreatDoorD4
namespace Go.Proofs.YtginfkadmjikhaaGreatDoor.E
open Go.RowKit Go.Proofs
set_option linter.unusedVariables false
set_option linter.unusedSimpArgs false
set_option maxRecDepth 100000
set_option maxHeartbeats 2000000
theorem map_eraseIdx {α β : Type} (f : α → β) : ∀ (l : List α) (k : Nat), (l.map f).eraseIdx k = (l.eraseIdx k).map f
  | [], k => by simp
  | x :: l, 0 => rfl
  | x :: l, k + 1 => by simp [map_eraseIdx f l k]
theorem mail_DeleteM (mail : List S.Mail) (b k n0 : Nat) (e : Int) (he : e = (k : Int) + 1) (h : Heap) (hb : h b = some ⟨107, 11, mail.map (mailC true)⟩) (hk : k < mail.length) :
    CS Tryz.prog 141 [.own b 0 mail.length, Int' k, Int' e] h n0 (fun h' n' r => h' = upd h b (some ⟨107, 11, (mail.eraseIdx k).map (mailC true)⟩) ∧ n' = n0 ∧ r = .own b 0 (mail.eraseIdx k).length) := by
  have := mail_Delete (mail.map (mailC true)) b k n0 e he h hb (by simpa using hk)
  rw [List.length_map, map_eraseIdx] at this
  have e2 : (mail.eraseIdx k).length = mail.length - 1 := by rw [List.length_eraseIdx, if_pos hk]
  rw [e2]
  exact this
theorem sub_mail (m : S.Mail) : SubL SubF (mailC true m) (mailC false m) := .cons (.refl _) (.cons (.refl _) (.cons (.refl _) (.cons (.refl _) (.cons (.refl _) (.cons (.refl _) (.cons (.refl _) (.cons (.lst (fun h => by cases h) (SubR.refl _)) (.cons (.refl _) (.cons (.refl _) (.cons (.lst (fun h => by cases h) (SubR.refl _)) (.nil _)))))))))))
theorem asked_world {w : S.World} {m : S.Mail} {i a b n0 : Nat} {h0 : Heap} (W : WSub h0 n0 i a b w) (hm : w.mail.length ≤ 1000) {cells : List AV} (hs : SubL SubF cells (mailC false m)) :
    CS Tryz.prog 143 [.ptr i 10 0 0, .agg cells] h0 n0 (fun h n r => WOut h0 n0 i a b (S.asked w m) h n) :=
  CS.world (Q := fun h0 h n r => WOut h0 n0 i a b (S.asked w m) h n) (fun h W => world_asked w m i a b n0 h W hm) (fun h' s h1 n r h2 => h2.frame s) W (.cons (.refl _) (.cons (.agg hs) (.nil _)))
theorem HappS.of {h0 h : Heap} {n0 n i a b : Nat} {v : S.World} (h2 : WOut h0 n0 i a b v h n) : HappS h0 n0 i a b (v, 0) h n (Int' 0) := by
  obtain ⟨⟨b', g1, g2⟩, g3, g4⟩ := h2
  exact ⟨rfl, g3, g4, fun _ => ⟨b', g1.sub, g2⟩⟩
theorem mail_small {m : S.Mail} (h : S.checkMail m = 0) : m.c.d.length ≤ 100000 ∧ m.a.d.length ≤ 100000 := by
  unfold S.checkMail at h
  split at h
  · cases h
  split at h
  · split at h
    · cases h
    · rename_i g
      have g' : m.c = S.Cmd.zero := Decidable.not_not.1 g
      have := checkAnswer_len h
      rw [g']
      exact ⟨by decide, by omega⟩
  · split at h
    · cases h
    · rename_i g
      have g' : m.a = S.Answer.zero := Decidable.not_not.1 g
      have := checkCmd_len (checkRec_parts h).2.2.2.2
      rw [g']
      exact ⟨by simp only at this; omega, by decide⟩
theorem world_hear (w : S.World) (x : S.Hap) (i a b n0 : Nat) (h0 : Heap) (W : WAt h0 n0 i a b w) {l : List S.Rec} (hok : OkW w l) (hk : x.kind = 3 ∨ x.kind = 4 ∨ x.kind = 5) :
    CS Tryz.prog 108 [.ptr i 10 0 0, .agg (hapC false x)] h0 n0 (Happ h0 n0 i a b (S.hearMail w x)) := by
  refine CS.happ ?_
  have W0 := W
  obtain ⟨hi, ha, hb, li, la, lb, ia, ib, ab⟩ := W
  replace W0 := hid W0
  have ai := Ne.symm ia
  have bi := Ne.symm ib
  have ba := Ne.symm ab
  have o1 := hok.hand3
  have o2 := hok.mail30
  have o3 := hok.mails
  clear hok
  obtain ⟨H, d, up, hand, mail⟩ := w
  obtain ⟨nn, rfl⟩ : ∃ nn, n0 = nn + 1 := ⟨n0 - 1, by omega⟩
  obtain ⟨kind, who, n, c⟩ := x
  simp only at ha hb hk o1 o2 o3
  obtain ⟨u, hu⟩ : ∃ u, u = S.hearMail ⟨H, d, up, hand, mail⟩ ⟨kind, who, n, c⟩ := ⟨_, rfl⟩
  rw [← hu]
  unfold S.hearMail at hu
  simp only at hu
  refine CS_inlineB (typesOk _) [] 5 1 10 Tryz.func108 (fun _ _ => by kernel_rfl) rfl (by kernel_rfl) (Nat.le_of_ble_eq_true rfl) ?_
  by_cases hn : n < 0
  · rw [if_pos (.inl hn)] at hu
    have hn' : decide (n < 0) = true := by simp [hn]
    simp -dsimp -implicitDefEqProofs [-getElem?_pos, -List.map_append, -List.map_set, List.getElem?_cons_zero, List.getElem?_cons_succ, hi, ha, hb, hn', far li, far la, far lb, ia, ib, ab, ai, bi, ba]
    rw [hu]
    exact .bad (by decide) (by omega) fun z hz _ _ _ => by repeat (first | rfl | rw [upd_ne _ _ (by omega)])
  have hn' : decide (n < 0) = false := by simp [hn]
  by_cases hn2 : (mail.length : Int) ≤ n
  · rw [if_pos (.inr hn2)] at hu
    have hn2' : decide ((mail.length : Int) ≤ n) = true := by simp [hn2]
    simp -dsimp -implicitDefEqProofs [-getElem?_pos, -List.map_append, -List.map_set, List.getElem?_cons_zero, List.getElem?_cons_succ, hi, ha, hb, hn', hn2', far li, far la, far lb, ia, ib, ab, ai, bi, ba]
    rw [hu]
    exact .bad (by decide) (by omega) fun z hz _ _ _ => by repeat (first | rfl | rw [upd_ne _ _ (by omega)])
  rw [if_neg (by omega)] at hu
  obtain ⟨k, rfl⟩ : ∃ k : Nat, n = k := ⟨n.toNat, by omega⟩
  have hkl : k < mail.length := by omega
  have hn2' : decide (mail.length ≤ k) = false := by simp; omega
  obtain ⟨m, hx⟩ : ∃ m, mail[k]? = some m := ⟨mail[k], by simp⟩
  have hg : mail.getD ((k : Int)).toNat default = m := by simp only [Int.toNat_natCast]; exact getD_of hx
  have hm := o3 m (List.mem_of_getElem? hx)
  simp only [Int.toNat_natCast] at hg
  simp only [Int.toNat_natCast, hg] at hu
  have hw : IntKind.i64.wrap ((k : Int) + 1) = (k : Int) + 1 := wrap_ok (by omega)
  clear hn hn2 hg
  obtain ⟨back, mw, q, mc, ma⟩ := m
  simp only at hu
  have hmwr : back = true → ∃ (mwk : Nat) (mz : S.Hand), mw = mwk ∧ hand[mwk]? = some mz ∧ hand.getD mw.toNat S.Hand.zero = mz := fun _ => by
    have h1 : 0 ≤ mw ∧ mw < 3 := by
      unfold S.checkMail at hm
      split at hm
      · cases hm
      · rename_i g; simp only at g; omega
    obtain ⟨mwk, rfl⟩ : ∃ k : Nat, mw = k := ⟨mw.toNat, by omega⟩
    obtain ⟨mz, hz⟩ : ∃ z, hand[mwk]? = some z := ⟨hand[mwk]'(by omega), by simp⟩
    exact ⟨mwk, mz, rfl, hz, by simp only [Int.toNat_natCast]; exact getD_of hz⟩
  have hlen : mc.d.length ≤ 100000 ∧ ma.d.length ≤ 100000 := mail_small hm
  replace hmwr := hid hmwr
  clear hm o3
  rcases hk with rfl | rfl | rfl
  · simp only [Int.reduceEq, ne_eq, not_true_eq_false, not_false_eq_true, if_true, if_false] at hu
    clear hlen
    cases back with
    | true =>
      rw [if_pos rfl] at hu
      obtain ⟨mwk, mz, hmw, hmz, hgz⟩ := hmwr.out rfl
      have hml : mwk < hand.length := (List.getElem?_eq_some_iff.1 hmz).1
      subst hmw
      rw [hgz] at hu
      obtain ⟨⟨Z, e⟩, hH⟩ : ∃ r, S.hear mz q ma = r := ⟨_, rfl⟩
      have ch := hid (hear_eq hH)
      rw [hH] at hu
      simp only at hu
      clear hH
      by_cases he : e = 0
      rotate_left
      · rw [if_pos he] at hu
        simp -dsimp -implicitDefEqProofs [-getElem?_pos, -List.map_append, -List.map_set, List.getElem?_cons_zero, List.getElem?_cons_succ, hi, ha, hb, hn', hn2', hx, hkl, hw, far li, far la, far lb, ia, ib, ab, ai, bi, ba]
        refine call_CSx (mail_DeleteM mail b k _ _ rfl _ (by repeat (first | exact upd_same _ _ _ | exact hi | exact ha | exact hb | rw [upd_ne _ _ (by omega)])) hkl) ?_
        rintro h' n' r ⟨rfl, rfl, rfl⟩
        simp -dsimp -implicitDefEqProofs [-getElem?_pos, -List.map_append, -List.map_set, List.getElem?_cons_zero, List.getElem?_cons_succ, hi, ha, hb, hmz, hml, hx, hkl, far li, far la, far lb, ia, ib, ab, ai, bi, ba]
        refine call_CC (ch.out) ?_
        simp -dsimp -implicitDefEqProofs [-getElem?_pos, -List.map_append, -List.map_set, List.getElem?_cons_zero, List.getElem?_cons_succ, hi, ha, hb, he, hmz, hml, hx, hkl, far li, far la, far lb, ia, ib, ab, ai, bi, ba]
        rw [hu]
        exact .bad he (by omega) (fun z hz _ _ _ => by repeat (first | rfl | rw [upd_ne _ _ (by omega)]))
      subst he
      rw [if_neg (by simp)] at hu
      simp -dsimp -implicitDefEqProofs [-getElem?_pos, -List.map_append, -List.map_set, List.getElem?_cons_zero, List.getElem?_cons_succ, hi, ha, hb, hn', hn2', hx, hkl, hw, far li, far la, far lb, ia, ib, ab, ai, bi, ba]
      refine call_CSx (mail_DeleteM mail b k _ _ rfl _ (by repeat (first | exact upd_same _ _ _ | exact hi | exact ha | exact hb | rw [upd_ne _ _ (by omega)])) hkl) ?_
      rintro h' n' r ⟨rfl, rfl, rfl⟩
      simp -dsimp -implicitDefEqProofs [-getElem?_pos, -List.map_append, -List.map_set, List.getElem?_cons_zero, List.getElem?_cons_succ, hi, ha, hb, hmz, hml, hx, hkl, far li, far la, far lb, ia, ib, ab, ai, bi, ba]
      refine call_CC (ch.out) ?_
      simp -dsimp -implicitDefEqProofs [-getElem?_pos, -List.map_append, -List.map_set, List.getElem?_cons_zero, List.getElem?_cons_succ, hi, ha, hb, hmz, hml, hx, hkl, far li, far la, far lb, ia, ib, ab, ai, bi, ba]
      rw [hu]
      refine ⟨rfl, by omega, (fun z hz _ _ _ => by repeat (first | rfl | rw [upd_ne _ _ (by omega)])), fun _ => ⟨b, ⟨⟨_, by repeat (first | exact upd_same _ _ _ | exact hi | exact ha | exact hb | rw [upd_ne _ _ (by omega)]), by simp only [ownW, List.length_set]; exact SubL.reflF _⟩, ⟨_, by repeat (first | exact upd_same _ _ _ | exact hi | exact ha | exact hb | rw [upd_ne _ _ (by omega)]), ?_⟩, ⟨_, by repeat (first | exact upd_same _ _ _ | exact hi | exact ha | exact hb | rw [upd_ne _ _ (by omega)]), SubRow.refl _⟩, by omega, by omega, by omega, ia, ib, ab⟩, .inl rfl⟩⟩
      · simp only [Int.toNat_natCast, List.map_set]
        exact (SubRow.refl _).set (SubL.reflF _)
    | false =>
      rw [if_neg (by simp)] at hu
      cases up with
      | false =>
        rw [if_pos rfl] at hu
        simp -dsimp -implicitDefEqProofs [-getElem?_pos, -List.map_append, -List.map_set, List.getElem?_cons_zero, List.getElem?_cons_succ, hi, ha, hb, hn', hn2', hx, hkl, hw, far li, far la, far lb, ia, ib, ab, ai, bi, ba]
        refine call_CSx (mail_DeleteM mail b k _ _ rfl _ (by repeat (first | exact upd_same _ _ _ | exact hi | exact ha | exact hb | rw [upd_ne _ _ (by omega)])) hkl) ?_
        rintro h' n' r ⟨rfl, rfl, rfl⟩
        simp -dsimp -implicitDefEqProofs [-getElem?_pos, -List.map_append, -List.map_set, List.getElem?_cons_zero, List.getElem?_cons_succ, hi, ha, hb, hx, hkl, far li, far la, far lb, ia, ib, ab, ai, bi, ba]
        rw [hu]
        exact .bad (by decide) (by omega) (fun z hz _ _ _ => by repeat (first | rfl | rw [upd_ne _ _ (by omega)]))
      | true =>
        rw [if_neg (by simp)] at hu
        simp -dsimp -implicitDefEqProofs [-getElem?_pos, -List.map_append, -List.map_set, List.getElem?_cons_zero, List.getElem?_cons_succ, hi, ha, hb, hn', hn2', hx, hkl, hw, far li, far la, far lb, ia, ib, ab, ai, bi, ba]
        refine call_CSx (mail_DeleteM mail b k _ _ rfl _ (by repeat (first | exact upd_same _ _ _ | exact hi | exact ha | exact hb | rw [upd_ne _ _ (by omega)])) hkl) ?_
        rintro h' n' r ⟨rfl, rfl, rfl⟩
        simp -dsimp -implicitDefEqProofs [-getElem?_pos, -List.map_append, -List.map_set, List.getElem?_cons_zero, List.getElem?_cons_succ, hi, ha, hb, hx, hkl, far li, far la, far lb, ia, ib, ab, ai, bi, ba]
        refine call_CSx (asked_world (w := ⟨H, d, true, hand, mail.eraseIdx k⟩) (m := ⟨false, mw, q, mc, ma⟩) ⟨⟨_, by repeat (first | exact upd_same _ _ _ | exact hi | exact ha | exact hb | rw [upd_ne _ _ (by omega)]), SubL.reflF _⟩, ⟨_, by repeat (first | exact upd_same _ _ _ | exact hi | exact ha | exact hb | rw [upd_ne _ _ (by omega)]), SubRow.refl _⟩, ⟨_, by repeat (first | exact upd_same _ _ _ | exact hi | exact ha | exact hb | rw [upd_ne _ _ (by omega)]), SubRow.refl _⟩, by omega, by omega, by omega, ia, ib, ab⟩ (by simp only; first | omega | (rw [List.length_eraseIdx, if_pos hkl]; omega)) (sub_mail _)) ?_
        intro h' n' r hW
        simp -dsimp -implicitDefEqProofs [-getElem?_pos, -List.map_append, -List.map_set, List.getElem?_cons_zero, List.getElem?_cons_succ]
        rw [hu]
        exact .of (hW.after (by omega) (fun z hz _ _ _ => by repeat (first | rfl | rw [upd_ne _ _ (by omega)])) la lb li (by omega))
  · simp only [Int.reduceEq, ne_eq, not_true_eq_false, not_false_eq_true, if_true, if_false] at hu
    have cc := hid (cmd_Copy mc (by omega))
    have ca := hid (desk_CopyAnswer ma (by omega))
    clear hlen
    cases back with
    | true =>
      rw [if_pos rfl] at hu
      obtain ⟨mwk, mz, hmw, hmz, hgz⟩ := hmwr.out rfl
      have hml : mwk < hand.length := (List.getElem?_eq_some_iff.1 hmz).1
      subst hmw
      rw [hgz] at hu
      obtain ⟨⟨Z, e⟩, hH⟩ : ∃ r, S.hear mz q ma = r := ⟨_, rfl⟩
      have ch := hid (hear_eq hH)
      rw [hH] at hu
      simp only at hu
      clear hH
      by_cases he : e = 0
      rotate_left
      · rw [if_pos he] at hu
        simp -dsimp -implicitDefEqProofs [-getElem?_pos, -List.map_append, -List.map_set, List.getElem?_cons_zero, List.getElem?_cons_succ, hi, ha, hb, hn', hn2', hx, hkl, hw, far li, far la, far lb, ia, ib, ab, ai, bi, ba]
        refine call_CC (cc.out) ?_
        simp -dsimp -implicitDefEqProofs [-getElem?_pos, -List.map_append, -List.map_set, List.getElem?_cons_zero, List.getElem?_cons_succ, hi, ha, hb, hn', hn2', hx, hkl, hw, far li, far la, far lb, ia, ib, ab, ai, bi, ba]
        refine call_CC (ca.out) ?_
        simp -dsimp -implicitDefEqProofs [-getElem?_pos, -List.map_append, -List.map_set, List.getElem?_cons_zero, List.getElem?_cons_succ, hi, ha, hb, hmz, hml, hx, hkl, far li, far la, far lb, ia, ib, ab, ai, bi, ba]
        refine call_CC (ch.out) ?_
        simp -dsimp -implicitDefEqProofs [-getElem?_pos, -List.map_append, -List.map_set, List.getElem?_cons_zero, List.getElem?_cons_succ, hi, ha, hb, he, hmz, hml, hx, hkl, far li, far la, far lb, ia, ib, ab, ai, bi, ba]
        rw [hu]
        exact .bad he (by omega) (fun z hz _ _ _ => by repeat (first | rfl | rw [upd_ne _ _ (by omega)]))
      subst he
      rw [if_neg (by simp)] at hu
      simp -dsimp -implicitDefEqProofs [-getElem?_pos, -List.map_append, -List.map_set, List.getElem?_cons_zero, List.getElem?_cons_succ, hi, ha, hb, hn', hn2', hx, hkl, hw, far li, far la, far lb, ia, ib, ab, ai, bi, ba]
      refine call_CC (cc.out) ?_
      simp -dsimp -implicitDefEqProofs [-getElem?_pos, -List.map_append, -List.map_set, List.getElem?_cons_zero, List.getElem?_cons_succ, hi, ha, hb, hn', hn2', hx, hkl, hw, far li, far la, far lb, ia, ib, ab, ai, bi, ba]
      refine call_CC (ca.out) ?_
      simp -dsimp -implicitDefEqProofs [-getElem?_pos, -List.map_append, -List.map_set, List.getElem?_cons_zero, List.getElem?_cons_succ, hi, ha, hb, hmz, hml, hx, hkl, far li, far la, far lb, ia, ib, ab, ai, bi, ba]
      refine call_CC (ch.out) ?_
      simp -dsimp -implicitDefEqProofs [-getElem?_pos, -List.map_append, -List.map_set, List.getElem?_cons_zero, List.getElem?_cons_succ, hi, ha, hb, hmz, hml, hx, hkl, far li, far la, far lb, ia, ib, ab, ai, bi, ba]
      rw [hu]
      refine ⟨rfl, by omega, (fun z hz _ _ _ => by repeat (first | rfl | rw [upd_ne _ _ (by omega)])), fun _ => ⟨b, ⟨⟨_, by repeat (first | exact upd_same _ _ _ | exact hi | exact ha | exact hb | rw [upd_ne _ _ (by omega)]), by simp only [ownW, List.length_set]; exact SubL.reflF _⟩, ⟨_, by repeat (first | exact upd_same _ _ _ | exact hi | exact ha | exact hb | rw [upd_ne _ _ (by omega)]), ?_⟩, ⟨_, by repeat (first | exact upd_same _ _ _ | exact hi | exact ha | exact hb | rw [upd_ne _ _ (by omega)]), SubRow.refl _⟩, by omega, by omega, by omega, ia, ib, ab⟩, .inl rfl⟩⟩
      · simp only [Int.toNat_natCast, List.map_set]
        exact (SubRow.refl _).set (SubL.reflF _)
    | false =>
      rw [if_neg (by simp)] at hu
      cases up with
      | false =>
        rw [if_pos rfl] at hu
        simp -dsimp -implicitDefEqProofs [-getElem?_pos, -List.map_append, -List.map_set, List.getElem?_cons_zero, List.getElem?_cons_succ, hi, ha, hb, hn', hn2', hx, hkl, hw, far li, far la, far lb, ia, ib, ab, ai, bi, ba]
        refine call_CC (cc.out) ?_
        simp -dsimp -implicitDefEqProofs [-getElem?_pos, -List.map_append, -List.map_set, List.getElem?_cons_zero, List.getElem?_cons_succ, hi, ha, hb, hn', hn2', hx, hkl, hw, far li, far la, far lb, ia, ib, ab, ai, bi, ba]
        refine call_CC (ca.out) ?_
        simp -dsimp -implicitDefEqProofs [-getElem?_pos, -List.map_append, -List.map_set, List.getElem?_cons_zero, List.getElem?_cons_succ, hi, ha, hb, hx, hkl, far li, far la, far lb, ia, ib, ab, ai, bi, ba]
        rw [hu]
        exact .bad (by decide) (by omega) (fun z hz _ _ _ => by repeat (first | rfl | rw [upd_ne _ _ (by omega)]))
      | true =>
        rw [if_neg (by simp)] at hu
        simp -dsimp -implicitDefEqProofs [-getElem?_pos, -List.map_append, -List.map_set, List.getElem?_cons_zero, List.getElem?_cons_succ, hi, ha, hb, hn', hn2', hx, hkl, hw, far li, far la, far lb, ia, ib, ab, ai, bi, ba]
        refine call_CC (cc.out) ?_
        simp -dsimp -implicitDefEqProofs [-getElem?_pos, -List.map_append, -List.map_set, List.getElem?_cons_zero, List.getElem?_cons_succ, hi, ha, hb, hn', hn2', hx, hkl, hw, far li, far la, far lb, ia, ib, ab, ai, bi, ba]
        refine call_CC (ca.out) ?_
        simp -dsimp -implicitDefEqProofs [-getElem?_pos, -List.map_append, -List.map_set, List.getElem?_cons_zero, List.getElem?_cons_succ, hi, ha, hb, hx, hkl, far li, far la, far lb, ia, ib, ab, ai, bi, ba]
        refine call_CSx (asked_world (w := ⟨H, d, true, hand, mail⟩) (m := ⟨false, mw, q, mc, ma⟩) ⟨⟨_, by repeat (first | exact upd_same _ _ _ | exact hi | exact ha | exact hb | rw [upd_ne _ _ (by omega)]), SubL.reflF _⟩, ⟨_, by repeat (first | exact upd_same _ _ _ | exact hi | exact ha | exact hb | rw [upd_ne _ _ (by omega)]), SubRow.refl _⟩, ⟨_, by repeat (first | exact upd_same _ _ _ | exact hi | exact ha | exact hb | rw [upd_ne _ _ (by omega)]), SubRow.refl _⟩, by omega, by omega, by omega, ia, ib, ab⟩ (by simp only; first | omega | (rw [List.length_eraseIdx, if_pos hkl]; omega)) (sub_mail _)) ?_
        intro h' n' r hW
        simp -dsimp -implicitDefEqProofs [-getElem?_pos, -List.map_append, -List.map_set, List.getElem?_cons_zero, List.getElem?_cons_succ]
        rw [hu]
        exact .of (hW.after (by omega) (fun z hz _ _ _ => by repeat (first | rfl | rw [upd_ne _ _ (by omega)])) la lb li (by omega))
  · simp only [Int.reduceEq, ne_eq, not_true_eq_false, not_false_eq_true, if_true, if_false] at hu
    clear hlen
    simp -dsimp -implicitDefEqProofs [-getElem?_pos, -List.map_append, -List.map_set, List.getElem?_cons_zero, List.getElem?_cons_succ, hi, ha, hb, hn', hn2', hx, hkl, hw, far li, far la, far lb, ia, ib, ab, ai, bi, ba]
    refine call_CSx (mail_DeleteM mail b k _ _ rfl _ (by repeat (first | exact upd_same _ _ _ | exact hi | exact ha | exact hb | rw [upd_ne _ _ (by omega)])) hkl) ?_
    rintro h' n' r ⟨rfl, rfl, rfl⟩
    simp -dsimp -implicitDefEqProofs [-getElem?_pos, -List.map_append, -List.map_set, List.getElem?_cons_zero, List.getElem?_cons_succ, hi, ha, hb, hx, hkl, far li, far la, far lb, ia, ib, ab, ai, bi, ba]
    rw [hu]
    exact ⟨rfl, by omega, (fun z hz _ _ _ => by repeat (first | rfl | rw [upd_ne _ _ (by omega)])), fun _ => ⟨b, ⟨⟨_, by repeat (first | exact upd_same _ _ _ | exact hi | exact ha | exact hb | rw [upd_ne _ _ (by omega)]), SubL.reflF _⟩, ⟨_, by repeat (first | exact upd_same _ _ _ | exact hi | exact ha | exact hb | rw [upd_ne _ _ (by omega)]), SubRow.refl _⟩, ⟨_, by repeat (first | exact upd_same _ _ _ | exact hi | exact ha | exact hb | rw [upd_ne _ _ (by omega)]), SubRow.refl _⟩, by omega, by omega, by omega, ia, ib, ab⟩, .inl rfl⟩⟩
end Go.Proofs.YtginfkadmjikhaaGreatDoor.E
namespace Go.Proofs.YtginfkadmjikhaaGreatDoor.E
open Go.RowKit Go.Proofs
set_option linter.unusedVariables false
set_option linter.unusedSimpArgs false
set_option maxRecDepth 100000
set_option maxHeartbeats 2000000
theorem sub_ask {w q : Int} {c : S.Cmd} : SubL SubF [.at (.bool false), Int' w, Int' q, Int' c.kind, Int' c.z, Int' c.n, Int' c.pos, .lst true 1 (I c.d), Int' 0, Int' 0, .nl] (mailC true ⟨false, w, q, c, S.Answer.zero⟩) :=
  .cons (.refl _) (.cons (.refl _) (.cons (.refl _) (.cons (.refl _) (.cons (.refl _) (.cons (.refl _) (.cons (.refl _) (.cons (.lst (fun h => h) (SubR.refl _)) (.cons (.refl _) (.cons (.refl _) (.cons .nl (.nil _)))))))))))
theorem ask_small {x Z : S.Hand} {c : S.Cmd} {e : Int} (hc : S.checkHand x = 0) (h : S.ask x c = (Z, e)) : e = 0 → Z.c.d.length ≤ 100000 := by
  intro he
  subst he
  unfold S.ask at h
  split at h
  · rename_i g; simp only [Prod.mk.injEq] at h; exact absurd h.2 g
  split at h
  · rename_i g; simp only [Prod.mk.injEq] at h; exact absurd h.2 g
  rename_i g1 g2
  split at h
  · simp only [Prod.mk.injEq] at h; exact absurd h.2 (by decide)
  split at h
  · simp only [Prod.mk.injEq] at h; exact absurd h.2 (by decide)
  simp only [Prod.mk.injEq, and_true] at h
  subst h
  have := checkCmd_len (Decidable.not_not.1 g2)
  simp only
  omega
theorem world_happen (w : S.World) (x : S.Hap) (i a b n0 : Nat) (h0 : Heap) (W : WAt h0 n0 i a b w) {l : List S.Rec} (hok : OkW w l) :
    CS Tryz.prog 60 [.ptr i 10 0 0, .agg (hapC false x)] h0 n0 (Happ h0 n0 i a b (S.happen w x)) := by
  refine CS.happ ?_
  have W0 := W
  obtain ⟨hi, ha, hb, li, la, lb, ia, ib, ab⟩ := W
  replace W0 := hid W0
  have ai := Ne.symm ia
  have bi := Ne.symm ib
  have ba := Ne.symm ab
  have o1 := hok.hand3
  have o2 := hok.mail30
  have o3 := hok.hands
  replace hok := hid hok
  obtain ⟨H, d, up, hand, mail⟩ := w
  obtain ⟨nn, rfl⟩ : ∃ nn, n0 = nn + 1 := ⟨n0 - 1, by omega⟩
  obtain ⟨kind, who, n, c⟩ := x
  simp only at ha hb o1 o2 o3
  obtain ⟨u, hu⟩ : ∃ u, u = S.happen ⟨H, d, up, hand, mail⟩ ⟨kind, who, n, c⟩ := ⟨_, rfl⟩
  rw [← hu]
  unfold S.happen at hu
  simp only at hu
  refine CS_inlineB (typesOk _) [] 23 0 9 Tryz.func60 (fun _ _ => by kernel_rfl) rfl (by kernel_rfl) (Nat.le_of_ble_eq_true rfl) ?_
  by_cases k1 : kind = 3 ∨ kind = 4 ∨ kind = 5
  · rw [if_pos k1] at hu
    have k1' := hid k1
    rcases k1 with rfl | rfl | rfl <;> simp -dsimp -implicitDefEqProofs [-getElem?_pos, -List.map_append, -List.map_set, List.getElem?_cons_zero, List.getElem?_cons_succ, hi, ha, hb, far li, far la, far lb, ia, ib, ab, ai, bi, ba]
    · refine call_CSx (world_hear ⟨H, d, up, hand, mail⟩ ⟨3, who, n, c⟩ i a b _ _ (W0.out.up (by omega) fun z hz => by repeat (first | rfl | rw [upd_ne _ _ (by omega)])) hok.out k1'.out) ?_
      intro h' n' r hW
      obtain ⟨hr1, hr2, hr3, hr4⟩ := hW
      subst hr1
      simp -dsimp -implicitDefEqProofs [-getElem?_pos, -List.map_append, -List.map_set, List.getElem?_cons_zero, List.getElem?_cons_succ]
      rw [hu]
      exact ⟨rfl, by omega, fun z hz z2 z3 z4 => (hr3 z (by omega) z2 z3 z4).trans (by repeat (first | rfl | rw [upd_ne _ _ (by omega)])), fun e => by
        obtain ⟨⟨b', g1, g2⟩, g3, g4⟩ := hr4 e
        obtain ⟨q1, q2, q3, q4, q5, q6, q7, q8, q9⟩ := g1
        exact ⟨b', WAt.sub ⟨q1, q2, q3, by omega, by omega, by omega, q7, q8, q9⟩, by omega⟩⟩
    · refine call_CSx (world_hear ⟨H, d, up, hand, mail⟩ ⟨4, who, n, c⟩ i a b _ _ (W0.out.up (by omega) fun z hz => by repeat (first | rfl | rw [upd_ne _ _ (by omega)])) hok.out k1'.out) ?_
      intro h' n' r hW
      obtain ⟨hr1, hr2, hr3, hr4⟩ := hW
      subst hr1
      simp -dsimp -implicitDefEqProofs [-getElem?_pos, -List.map_append, -List.map_set, List.getElem?_cons_zero, List.getElem?_cons_succ]
      rw [hu]
      exact ⟨rfl, by omega, fun z hz z2 z3 z4 => (hr3 z (by omega) z2 z3 z4).trans (by repeat (first | rfl | rw [upd_ne _ _ (by omega)])), fun e => by
        obtain ⟨⟨b', g1, g2⟩, g3, g4⟩ := hr4 e
        obtain ⟨q1, q2, q3, q4, q5, q6, q7, q8, q9⟩ := g1
        exact ⟨b', WAt.sub ⟨q1, q2, q3, by omega, by omega, by omega, q7, q8, q9⟩, by omega⟩⟩
    · refine call_CSx (world_hear ⟨H, d, up, hand, mail⟩ ⟨5, who, n, c⟩ i a b _ _ (W0.out.up (by omega) fun z hz => by repeat (first | rfl | rw [upd_ne _ _ (by omega)])) hok.out k1'.out) ?_
      intro h' n' r hW
      obtain ⟨hr1, hr2, hr3, hr4⟩ := hW
      subst hr1
      simp -dsimp -implicitDefEqProofs [-getElem?_pos, -List.map_append, -List.map_set, List.getElem?_cons_zero, List.getElem?_cons_succ]
      rw [hu]
      exact ⟨rfl, by omega, fun z hz z2 z3 z4 => (hr3 z (by omega) z2 z3 z4).trans (by repeat (first | rfl | rw [upd_ne _ _ (by omega)])), fun e => by
        obtain ⟨⟨b', g1, g2⟩, g3, g4⟩ := hr4 e
        obtain ⟨q1, q2, q3, q4, q5, q6, q7, q8, q9⟩ := g1
        exact ⟨b', WAt.sub ⟨q1, q2, q3, by omega, by omega, by omega, q7, q8, q9⟩, by omega⟩⟩
  rw [if_neg k1] at hu
  by_cases k2 : kind = 6 ∨ kind = 7
  · rw [if_pos k2] at hu
    have k2' := hid k2
    rcases k2 with rfl | rfl <;> simp -dsimp -implicitDefEqProofs [-getElem?_pos, -List.map_append, -List.map_set, List.getElem?_cons_zero, List.getElem?_cons_succ, hi, ha, hb, far li, far la, far lb, ia, ib, ab, ai, bi, ba]
    · refine call_CSx (world_power ⟨H, d, up, hand, mail⟩ ⟨6, who, n, c⟩ i a b _ _ (W0.out.up (by omega) fun z hz => by repeat (first | rfl | rw [upd_ne _ _ (by omega)])) k2'.out) ?_
      intro h' n' r hW
      obtain ⟨hr1, hr2, hr3, hr4⟩ := hW
      subst hr1
      simp -dsimp -implicitDefEqProofs [-getElem?_pos, -List.map_append, -List.map_set, List.getElem?_cons_zero, List.getElem?_cons_succ]
      rw [hu]
      exact ⟨rfl, by omega, fun z hz z2 z3 z4 => (hr3 z (by omega) z2 z3 z4).trans (by repeat (first | rfl | rw [upd_ne _ _ (by omega)])), fun e => by
        obtain ⟨⟨b', g1, g2⟩, g3, g4⟩ := hr4 e
        obtain ⟨q1, q2, q3, q4, q5, q6, q7, q8, q9⟩ := g1
        exact ⟨b', WAt.sub ⟨q1, q2, q3, by omega, by omega, by omega, q7, q8, q9⟩, by omega⟩⟩
    · refine call_CSx (world_power ⟨H, d, up, hand, mail⟩ ⟨7, who, n, c⟩ i a b _ _ (W0.out.up (by omega) fun z hz => by repeat (first | rfl | rw [upd_ne _ _ (by omega)])) k2'.out) ?_
      intro h' n' r hW
      obtain ⟨hr1, hr2, hr3, hr4⟩ := hW
      subst hr1
      simp -dsimp -implicitDefEqProofs [-getElem?_pos, -List.map_append, -List.map_set, List.getElem?_cons_zero, List.getElem?_cons_succ]
      rw [hu]
      exact ⟨rfl, by omega, fun z hz z2 z3 z4 => (hr3 z (by omega) z2 z3 z4).trans (by repeat (first | rfl | rw [upd_ne _ _ (by omega)])), fun e => by
        obtain ⟨⟨b', g1, g2⟩, g3, g4⟩ := hr4 e
        obtain ⟨q1, q2, q3, q4, q5, q6, q7, q8, q9⟩ := g1
        exact ⟨b', WAt.sub ⟨q1, q2, q3, by omega, by omega, by omega, q7, q8, q9⟩, by omega⟩⟩
  rw [if_neg k2] at hu
  by_cases k3 : kind ≠ 1 ∧ kind ≠ 2
  · rw [if_pos k3] at hu
    have c1 : decide (kind = 1) = false := by simp; omega
    have c2 : decide (kind = 2) = false := by simp; omega
    have c3 : decide (kind = 3) = false := by simp; omega
    have c4 : decide (kind = 4) = false := by simp; omega
    have c5 : decide (kind = 5) = false := by simp; omega
    have c6 : decide (kind = 6) = false := by simp; omega
    have c7 : decide (kind = 7) = false := by simp; omega
    simp -dsimp -implicitDefEqProofs [-getElem?_pos, -List.map_append, -List.map_set, List.getElem?_cons_zero, List.getElem?_cons_succ, c1, c2, c3, c4, c5, c6, c7, hi, ha, hb, far li, far la, far lb, ia, ib, ab, ai, bi, ba]
    rw [hu]
    exact .bad (by decide) (by omega) (fun z hz _ _ _ => by repeat (first | rfl | rw [upd_ne _ _ (by omega)]))
  rw [if_neg k3] at hu
  have k4 : kind = 1 ∨ kind = 2 := by omega
  clear k1 k2 k3
  by_cases w1 : who < 0
  · rw [if_pos (.inl w1)] at hu
    have w1' : decide (who < 0) = true := by simp [w1]
    rcases k4 with rfl | rfl
    all_goals
      simp -dsimp -implicitDefEqProofs [-getElem?_pos, -List.map_append, -List.map_set, List.getElem?_cons_zero, List.getElem?_cons_succ, w1', hi, ha, hb, far li, far la, far lb, ia, ib, ab, ai, bi, ba]
      rw [hu]
      exact .bad (by decide) (by omega) (fun z hz _ _ _ => by repeat (first | rfl | rw [upd_ne _ _ (by omega)]))
  have w1' : decide (who < 0) = false := by simp [w1]
  by_cases w2 : (hand.length : Int) ≤ who
  · rw [if_pos (.inr w2)] at hu
    have w2' : decide ((hand.length : Int) ≤ who) = true := by simp [w2]
    rcases k4 with rfl | rfl
    all_goals
      simp -dsimp -implicitDefEqProofs [-getElem?_pos, -List.map_append, -List.map_set, List.getElem?_cons_zero, List.getElem?_cons_succ, w1', w2', hi, ha, hb, far li, far la, far lb, ia, ib, ab, ai, bi, ba]
      rw [hu]
      exact .bad (by decide) (by omega) (fun z hz _ _ _ => by repeat (first | rfl | rw [upd_ne _ _ (by omega)]))
  rw [if_neg (by omega)] at hu
  obtain ⟨k, rfl⟩ : ∃ k : Nat, who = k := ⟨who.toNat, by omega⟩
  have hkl : k < hand.length := by omega
  have w2' : decide (hand.length ≤ k) = false := by simp; omega
  obtain ⟨x, hx⟩ : ∃ x, hand[k]? = some x := ⟨hand[k], by simp⟩
  have hg : hand.getD ((k : Int)).toNat S.Hand.zero = x := by simp only [Int.toNat_natCast]; exact getD_of hx
  have hc := o3 x (List.mem_of_getElem? hx)
  rw [hg] at hu
  clear w1 w2 hg o3 hok
  rcases k4 with rfl | rfl
  · simp only [if_true] at hu
    obtain ⟨⟨Z, e⟩, hA⟩ : ∃ q, S.ask x c = q := ⟨_, rfl⟩
    have ca := hid (ask_eq hA)
    have hZ := ask_small hc hA
    rw [hA] at hu
    simp only at hu
    clear hA hc
    by_cases he : e = 0
    rotate_left
    · rw [if_pos he] at hu
      simp -dsimp -implicitDefEqProofs [-getElem?_pos, -List.map_append, -List.map_set, List.getElem?_cons_zero, List.getElem?_cons_succ, w1', w2', hx, hkl, hi, ha, hb, far li, far la, far lb, ia, ib, ab, ai, bi, ba]
      refine call_CC (ca.out) ?_
      simp -dsimp -implicitDefEqProofs [-getElem?_pos, -List.map_append, -List.map_set, List.getElem?_cons_zero, List.getElem?_cons_succ, w1', w2', hx, hkl, he, hi, ha, hb, far li, far la, far lb, ia, ib, ab, ai, bi, ba]
      rw [hu]
      exact .bad he (by omega) (fun z hz _ _ _ => by repeat (first | rfl | rw [upd_ne _ _ (by omega)]))
    subst he
    rw [if_neg (by simp)] at hu
    have cc := hid (cmd_Copy Z.c (by have := hZ rfl; omega))
    clear hZ
    simp -dsimp -implicitDefEqProofs [-getElem?_pos, -List.map_append, -List.map_set, List.getElem?_cons_zero, List.getElem?_cons_succ, w1', w2', hx, hkl, hi, ha, hb, far li, far la, far lb, ia, ib, ab, ai, bi, ba]
    refine call_CC (ca.out) ?_
    simp -dsimp -implicitDefEqProofs [-getElem?_pos, -List.map_append, -List.map_set, List.getElem?_cons_zero, List.getElem?_cons_succ, w1', w2', hx, hkl, hi, ha, hb, far li, far la, far lb, ia, ib, ab, ai, bi, ba]
    refine call_CC (cc.out) ?_
    simp -dsimp -implicitDefEqProofs [-getElem?_pos, -List.map_append, -List.map_set, List.getElem?_cons_zero, List.getElem?_cons_succ, w1', w2', hx, hkl, hi, ha, hb, far li, far la, far lb, ia, ib, ab, ai, bi, ba]
    refine call_CSx (post_world (w := ⟨H, d, up, hand.set k Z, mail⟩) (m := ⟨false, k, Z.seq, Z.c, S.Answer.zero⟩) ⟨⟨_, by repeat (first | exact upd_same _ _ _ | exact hi | exact ha | exact hb | rw [upd_ne _ _ (by omega)]), by simp only [ownW, List.length_set]; exact SubL.reflF _⟩, ⟨_, by repeat (first | exact upd_same _ _ _ | exact hi | exact ha | exact hb | rw [upd_ne _ _ (by omega)]), by simp only [List.map_set]; exact (SubRow.refl _).set (SubL.reflF _)⟩, ⟨_, by repeat (first | exact upd_same _ _ _ | exact hi | exact ha | exact hb | rw [upd_ne _ _ (by omega)]), SubRow.refl _⟩, by omega, by omega, by omega, ia, ib, ab⟩ (by simp only; omega) sub_ask) ?_
    intro h' n' r hW
    simp -dsimp -implicitDefEqProofs [-getElem?_pos, -List.map_append, -List.map_set, List.getElem?_cons_zero, List.getElem?_cons_succ]
    rw [hu]
    simp only [Int.toNat_natCast]
    exact .of (hW.after (by omega) (fun z hz _ _ _ => by repeat (first | rfl | rw [upd_ne _ _ (by omega)])) la lb li (by omega))
  · simp only [show ((2 : Int) = 1) = False from by simp, if_false] at hu
    by_cases hw : x.waits = false
    · rw [if_pos hw] at hu
      simp -dsimp -implicitDefEqProofs [-getElem?_pos, -List.map_append, -List.map_set, List.getElem?_cons_zero, List.getElem?_cons_succ, w1', w2', hx, hkl, hw, hi, ha, hb, far li, far la, far lb, ia, ib, ab, ai, bi, ba]
      rw [hu]
      exact .bad (by decide) (by omega) (fun z hz _ _ _ => by repeat (first | rfl | rw [upd_ne _ _ (by omega)]))
    · rw [if_neg hw] at hu
      have hw' : x.waits = true := by simpa using hw
      have hs := (small_of_check hc).1
      have cc := hid (cmd_Copy x.c (by omega))
      clear hs hw hc
      simp -dsimp -implicitDefEqProofs [-getElem?_pos, -List.map_append, -List.map_set, List.getElem?_cons_zero, List.getElem?_cons_succ, w1', w2', hx, hkl, hw', hi, ha, hb, far li, far la, far lb, ia, ib, ab, ai, bi, ba]
      refine call_CC (cc.out) ?_
      simp -dsimp -implicitDefEqProofs [-getElem?_pos, -List.map_append, -List.map_set, List.getElem?_cons_zero, List.getElem?_cons_succ, w1', w2', hx, hkl, hw', hi, ha, hb, far li, far la, far lb, ia, ib, ab, ai, bi, ba]
      refine call_CSx (post_world (w := ⟨H, d, up, hand, mail⟩) (m := ⟨false, k, x.seq, x.c, S.Answer.zero⟩) ⟨⟨_, by repeat (first | exact upd_same _ _ _ | exact hi | exact ha | exact hb | rw [upd_ne _ _ (by omega)]), SubL.reflF _⟩, ⟨_, by repeat (first | exact upd_same _ _ _ | exact hi | exact ha | exact hb | rw [upd_ne _ _ (by omega)]), SubRow.refl _⟩, ⟨_, by repeat (first | exact upd_same _ _ _ | exact hi | exact ha | exact hb | rw [upd_ne _ _ (by omega)]), SubRow.refl _⟩, by omega, by omega, by omega, ia, ib, ab⟩ (by simp only; omega) sub_ask) ?_
      intro h' n' r hW
      simp -dsimp -implicitDefEqProofs [-getElem?_pos, -List.map_append, -List.map_set, List.getElem?_cons_zero, List.getElem?_cons_succ]
      rw [hu]
      exact .of (hW.after (by omega) (fun z hz _ _ _ => by repeat (first | rfl | rw [upd_ne _ _ (by omega)])) la lb li (by omega))
end Go.Proofs.YtginfkadmjikhaaGreatDoor.E
