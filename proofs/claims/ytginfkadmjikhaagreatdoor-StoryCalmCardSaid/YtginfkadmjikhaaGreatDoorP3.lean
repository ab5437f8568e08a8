/- P3: Pe: what happens to a world of one's own: mail is posted; the hall hears. Pf: what happens to a world of one's own: power; mail is heard; all of it. -/
import Derived.Test.YtginfkadmjikhaaGreatDoorP2
import Derived.Test.YtginfkadmjikhaaGreatDoorP1
import Derived.Test.YtginfkadmjikhaaGreatDoorW2
import Derived.Test.YtginfkadmjikhaaGreatDoorK1
namespace Go.Proofs.YtginfkadmjikhaaGreatDoor.E
open Go.RowKit Go.Proofs
set_option linter.unusedVariables false
set_option linter.unusedSimpArgs false
set_option maxRecDepth 100000
set_option maxHeartbeats 2000000
structure WAt (h : Heap) (n i a b : Nat) (w : S.World) : Prop where
  hi : h i = some ⟨37, 10, [ownW true w a b]⟩
  ha : h a = some ⟨79, 8, w.hand.map (handC true)⟩
  hb : h b = some ⟨107, 11, w.mail.map (mailC true)⟩
  li : i < n
  la : a < n
  lb : b < n
  ia : i ≠ a
  ib : i ≠ b
  ab : a ≠ b
structure WOut (h0 : Heap) (n0 i a b : Nat) (w : S.World) (h : Heap) (n : Nat) : Prop where
  at' : ∃ b', WAt h n i a b' w ∧ (b' = b ∨ n0 ≤ b')
  n : n0 ≤ n
  rest : ∀ z, z < n0 → z ≠ i → z ≠ a → z ≠ b → h z = h0 z
theorem world_post (w : S.World) (m : S.Mail) (i a b n0 : Nat) (h0 : Heap) (W : WAt h0 n0 i a b w) (hm : w.mail.length ≤ 1000) :
    CS Tryz.prog 111 [.ptr i 10 0 0, .agg (mailC true m)] h0 n0 (fun h n r => r = .tup [] ∧ WOut h0 n0 i a b (S.post w m) h n) := by
  obtain ⟨hi, ha, hb, li, la, lb, ia, ib, ab⟩ := W
  obtain ⟨H, d, up, hand, mail⟩ := w
  simp only at hm ha hb
  have q1 : decide (100000000 < 1) = false := by decide
  have q2 : mail.length ≤ 100000000 := by omega
  refine CS_inline (typesOk _) Tryz.func111 (fun _ _ => by kernel_rfl) rfl (by kernel_rfl) (Nat.le_of_ble_eq_true rfl) ?_
  unfold S.post
  simp only
  by_cases g : mail.length < 30
  · rw [if_pos g]
    have g' : decide (mail.length < 30) = true := by simp [g]
    have g'' : decide ((mail.length : Int) < 30) = true := by simp; omega
    simp -dsimp -implicitDefEqProofs [-getElem?_pos, -List.map_append, -List.map_set, List.getElem?_cons_zero, List.getElem?_cons_succ, hi, ha, hb, g', g'', q1, q2, far li, far la, far lb, ia, ib, ab]
    refine ⟨⟨n0 + 4 + 24 + 28, ⟨?_, ?_, ?_, by omega, by omega, by omega, ia, by omega, by omega⟩, .inr (by omega)⟩, by omega, fun z h1 h2 h3 h4 => by repeat (first | rfl | rw [upd_ne _ _ (by omega)])⟩
    · simp only [ownW, List.length_append, List.length_cons, List.length_nil]
      exact upd_same _ _ _
    · repeat (first | exact ha | rw [upd_ne _ _ (by omega)])
    · rw [upd_ne _ _ (by omega), upd_same, List.map_append]
      rfl
  · rw [if_neg g]
    have g' : decide (mail.length < 30) = false := by simp [g]
    have g'' : decide ((mail.length : Int) < 30) = false := by simp; omega
    simp -dsimp -implicitDefEqProofs [-getElem?_pos, -List.map_append, -List.map_set, List.getElem?_cons_zero, List.getElem?_cons_succ, hi, ha, hb, g', g'', q1, q2, far li, far la, far lb, ia, ib, ab]
    exact ⟨⟨b, ⟨by repeat (first | exact hi | rw [upd_ne _ _ (by omega)]), by repeat (first | exact ha | rw [upd_ne _ _ (by omega)]), by repeat (first | exact hb | rw [upd_ne _ _ (by omega)]), by omega, by omega, by omega, ia, ib, ab⟩, .inl rfl⟩, by omega, fun z h1 h2 h3 h4 => by repeat (first | rfl | rw [upd_ne _ _ (by omega)])⟩
/-! worlds of which more is known -/
def SubRow (rows rows' : List (List AV)) : Prop := rows.length = rows'.length ∧ ∀ (k : Nat) (r r' : List AV), rows[k]? = some r → rows'[k]? = some r' → SubL SubF r r'
theorem SubRow.refl (rows : List (List AV)) : SubRow rows rows := ⟨rfl, fun k r r' h1 h2 => by rw [h1] at h2; cases h2; exact SubL.reflF _⟩
theorem SubRow.map {α : Type} {f g : α → List AV} (h : ∀ x, SubL SubF (f x) (g x)) (l : List α) : SubRow (l.map f) (l.map g) := by
  refine ⟨by simp, fun k r r' h1 h2 => ?_⟩
  rw [List.getElem?_map] at h1 h2
  cases hx : l[k]? with
  | none => rw [hx] at h1; cases h1
  | some x => rw [hx] at h1 h2; cases h1; cases h2; exact h x
theorem SubRow.set {rows rows' : List (List AV)} {k : Nat} {r r' : List AV} (h : SubRow rows rows') (hr : SubL SubF r r') : SubRow (rows.set k r) (rows'.set k r') := by
  refine ⟨by simp [h.1], fun j x x' h1 h2 => ?_⟩
  rw [List.getElem?_set] at h1 h2
  by_cases g : k = j
  · rw [if_pos g] at h1 h2
    split at h1
    · cases h1
      rw [if_pos (by rw [← h.1]; assumption)] at h2
      cases h2
      exact hr
    · cases h1
  · rw [if_neg g] at h1 h2
    exact h.2 j x x' h1 h2
theorem sub_back {w q : Int} {A : S.Answer} : SubL SubF [.at (.bool true), Int' w, Int' q, Int' 0, Int' 0, Int' 0, Int' 0, .nl, Int' A.e, Int' A.pos, .lst true 1 (I A.d)] (mailC true ⟨true, w, q, S.Cmd.zero, A⟩) :=
  .cons (.refl _) (.cons (.refl _) (.cons (.refl _) (.cons (.refl _) (.cons (.refl _) (.cons (.refl _) (.cons (.refl _) (.cons .nl (.cons (.refl _) (.cons (.refl _) (.cons (.lst (fun h => h) (SubR.refl _)) (.nil _)))))))))))
structure WSub (h : Heap) (n i a b : Nat) (w : S.World) : Prop where
  hi : ∃ cells, h i = some ⟨37, 10, [cells]⟩ ∧ SubL SubF cells (ownW true w a b)
  ha : ∃ rows, h a = some ⟨79, 8, rows⟩ ∧ SubRow rows (w.hand.map (handC true))
  hb : ∃ rows, h b = some ⟨107, 11, rows⟩ ∧ SubRow rows (w.mail.map (mailC true))
  li : i < n
  la : a < n
  lb : b < n
  ia : i ≠ a
  ib : i ≠ b
  ab : a ≠ b
theorem HSub.upd {h h' : Heap} {i : Nat} {e e' : HE} (hs : HSub h h') (he : h i = some e) (h1 : e.ty = e'.ty) (h2 : e.s = e'.s) (h3 : SubRow e.rows e'.rows) : HSub h (upd h' i (some e')) := by
  intro j ej hj
  by_cases hc : j = i
  · subst hc
    rw [upd_same] at hj
    cases hj
    exact ⟨e, he, h1, h2, h3.1, h3.2⟩
  · rw [upd_ne _ _ hc] at hj
    exact hs j ej hj
theorem SubRow.one {r r' : List AV} (h : SubL SubF r r') : SubRow [r] [r'] := by
  refine ⟨rfl, fun k x x' h1 h2 => ?_⟩
  cases k with
  | zero => cases h1; cases h2; exact h
  | succ k => simp at h1
theorem WSub.at' {h : Heap} {n i a b : Nat} {w : S.World} (W : WSub h n i a b w) : ∃ h', HSub h h' ∧ WAt h' n i a b w ∧ ∀ z, z ≠ i → z ≠ a → z ≠ b → h' z = h z := by
  obtain ⟨⟨cells, hi, si⟩, ⟨ra, ha, sa⟩, ⟨rb, hb, sb⟩, li, la, lb, ia, ib, ab⟩ := W
  refine ⟨E.upd (E.upd (E.upd h i (some ⟨37, 10, [ownW true w a b]⟩)) a (some ⟨79, 8, w.hand.map (handC true)⟩)) b (some ⟨107, 11, w.mail.map (mailC true)⟩), ?_, ⟨?_, ?_, upd_same _ _ _, li, la, lb, ia, ib, ab⟩, fun z h1 h2 h3 => by rw [upd_ne _ _ h3, upd_ne _ _ h2, upd_ne _ _ h1]⟩
  · exact (((HSub.refl h).upd (e' := ⟨37, 10, [ownW true w a b]⟩) hi rfl rfl (.one si)).upd (e' := ⟨79, 8, w.hand.map (handC true)⟩) ha rfl rfl sa).upd (e' := ⟨107, 11, w.mail.map (mailC true)⟩) hb rfl rfl sb
  · rw [upd_ne _ _ ib, upd_ne _ _ ia, upd_same]
  · rw [upd_ne _ _ ab, upd_same]
theorem WAt.sub {h : Heap} {n i a b : Nat} {w : S.World} (W : WAt h n i a b w) : WSub h n i a b w := ⟨⟨_, W.hi, SubL.reflF _⟩, ⟨_, W.ha, SubRow.refl _⟩, ⟨_, W.hb, SubRow.refl _⟩, W.li, W.la, W.lb, W.ia, W.ib, W.ab⟩
theorem CS.world {f : FuncId} {args args2 : List AV} {h0 : Heap} {n0 i a b : Nat} {w : S.World} {Q : Heap → Heap → Nat → AV → Prop}
    (hc : ∀ h, WAt h n0 i a b w → CS Tryz.prog f args h n0 (Q h)) (hQ : ∀ h', (∀ z, z ≠ i → z ≠ a → z ≠ b → h' z = h0 z) → ∀ h1 n r, Q h' h1 n r → Q h0 h1 n r) (W : WSub h0 n0 i a b w) (hs : SubL SubA args2 args) : CS Tryz.prog f args2 h0 n0 (Q h0) := by
  obtain ⟨h', s1, s2, s3⟩ := W.at'
  exact (((hc h' s2).pre s1).args hs).mono' (hQ h' s3)
theorem WOut.frame {h0 h' : Heap} {n0 i a b : Nat} {u : S.World} (s3 : ∀ z, z ≠ i → z ≠ a → z ≠ b → h' z = h0 z) {h1 : Heap} {n : Nat} (h2 : WOut h' n0 i a b u h1 n) : WOut h0 n0 i a b u h1 n :=
  ⟨h2.at', h2.n, fun z g1 g2 g3 g4 => (h2.rest z g1 g2 g3 g4).trans (s3 z g2 g3 g4)⟩
theorem WAt.up {h h0 : Heap} {n n0 i a b : Nat} {w : S.World} (W : WAt h0 n0 i a b w) (hn : n0 ≤ n) (hh : ∀ z, z < n0 → h z = h0 z) : WAt h n i a b w :=
  ⟨by rw [hh i W.li]; exact W.hi, by rw [hh a W.la]; exact W.ha, by rw [hh b W.lb]; exact W.hb, Nat.lt_of_lt_of_le W.li hn, Nat.lt_of_lt_of_le W.la hn, Nat.lt_of_lt_of_le W.lb hn, W.ia, W.ib, W.ab⟩
theorem WAt.keep {h h0 : Heap} {n n0 i a b : Nat} {w : S.World} (W : WAt h0 n0 i a b w) (hn : n0 ≤ n) (hh : ∀ z, z < n0 → h z = h0 z) : WOut h0 n0 i a b w h n :=
  ⟨⟨b, ⟨by rw [hh i W.li]; exact W.hi, by rw [hh a W.la]; exact W.ha, by rw [hh b W.lb]; exact W.hb, Nat.lt_of_lt_of_le W.li hn, Nat.lt_of_lt_of_le W.la hn, Nat.lt_of_lt_of_le W.lb hn, W.ia, W.ib, W.ab⟩, .inl rfl⟩, hn, fun z h1 _ _ _ => hh z h1⟩
theorem post_world {w : S.World} {m : S.Mail} {i a b n0 : Nat} {h0 : Heap} (W : WSub h0 n0 i a b w) (hm : w.mail.length ≤ 1000) {cells : List AV} (hs : SubL SubF cells (mailC true m)) :
    CS Tryz.prog 111 [.ptr i 10 0 0, .agg cells] h0 n0 (fun h n r => WOut h0 n0 i a b (S.post w m) h n) :=
  CS.world (Q := fun h0 h n r => WOut h0 n0 i a b (S.post w m) h n) (fun h W => (world_post w m i a b n0 h W hm).mono' fun h1 n r hx => hx.2) (fun h' s h1 n r h2 => h2.frame s) W (.cons (.refl _) (.cons (.agg hs) (.nil _)))
theorem WOut.after {h0 h1 h2 : Heap} {n0 n1 n2 n3 i a b : Nat} {v : S.World} (hn : n0 ≤ n1) (hh : ∀ z, z < n0 → z ≠ i → z ≠ a → z ≠ b → h1 z = h0 z) (h : WOut h1 n1 i a b v h2 n2) (la : a < n0) (lb : b < n0) (li : i < n0) (h3 : n2 ≤ n3) : WOut h0 n0 i a b v h2 n3 := by
  obtain ⟨⟨b', g1, g2⟩, g3, g4⟩ := h
  obtain ⟨q1, q2, q3, q4, q5, q6, q7, q8, q9⟩ := g1
  exact ⟨⟨b', ⟨q1, q2, q3, by omega, by omega, by omega, q7, q8, q9⟩, by omega⟩, by omega, fun z z1 z2 z3 z4 => (g4 z (by omega) z2 z3 z4).trans (hh z z1 z2 z3 z4)⟩
theorem WAt.put {h h0 : Heap} {n n0 i a b : Nat} {w v : S.World} {cells : List AV} (W : WAt h0 n0 i a b w) (hn : n0 ≤ n) (hc : SubL SubF cells (ownW true v a b)) (h1 : v.hand = w.hand) (h2 : v.mail = w.mail) (hi : h i = some ⟨37, 10, [cells]⟩) (hh : ∀ z, z < n0 → z ≠ i → h z = h0 z) : WSub h n i a b v :=
  ⟨⟨cells, hi, hc⟩, ⟨_, by rw [hh a W.la (Ne.symm W.ia)]; exact W.ha, by rw [h1]; exact SubRow.refl _⟩, ⟨_, by rw [hh b W.lb (Ne.symm W.ib)]; exact W.hb, by rw [h2]; exact SubRow.refl _⟩, Nat.lt_of_lt_of_le W.li hn, Nat.lt_of_lt_of_le W.la hn, Nat.lt_of_lt_of_le W.lb hn, W.ia, W.ib, W.ab⟩
theorem world_asked (w : S.World) (m : S.Mail) (i a b n0 : Nat) (h0 : Heap) (W : WAt h0 n0 i a b w) (hm : w.mail.length ≤ 1000) :
    CS Tryz.prog 143 [.ptr i 10 0 0, .agg (mailC false m)] h0 n0 (fun h n r => WOut h0 n0 i a b (S.asked w m) h n) := by
  have W0 := W
  obtain ⟨hi, ha, hb, li, la, lb, ia, ib, ab⟩ := W
  replace W0 := hid W0
  obtain ⟨H, d, up, hand, mail⟩ := w
  obtain ⟨nn, rfl⟩ : ∃ nn, n0 = nn + 1 := ⟨n0 - 1, by omega⟩
  obtain ⟨back, who, seq, c, an⟩ := m
  simp only at hm ha hb
  obtain ⟨u, hu⟩ : ∃ u, u = S.asked ⟨H, d, up, hand, mail⟩ ⟨back, who, seq, c, an⟩ := ⟨_, rfl⟩
  rw [← hu]
  unfold S.asked at hu
  simp only at hu
  obtain ⟨⟨M, A, e⟩, hN⟩ : ∃ q, S.nextHall H ⟨who, seq, c⟩ = q := ⟨_, rfl⟩
  have cn := hid (next_eq hN)
  have hno := next_of (h := H) (r := ⟨who, seq, c⟩)
  rw [hN] at hu hno
  simp only at hu hno
  refine CS_inlineG (typesOk _) [(12, [6069])] Tryz.func143 (fun _ _ => by kernel_rfl) rfl (by kernel_rfl) (Nat.le_of_ble_eq_true rfl) ?_
  by_cases he : e = 0
  rotate_left
  · rw [if_pos he] at hu
    replace hu := hid hu
    clear hN hno
    simp -dsimp -implicitDefEqProofs [-getElem?_pos, -List.map_append, -List.map_set, List.getElem?_cons_zero, List.getElem?_cons_succ, hi, ha, hb, far li, far la, far lb, ia, ib, ab]
    refine call_CC (cn.out) ?_
    simp -dsimp -implicitDefEqProofs [-getElem?_pos, -List.map_append, -List.map_set, List.getElem?_cons_zero, List.getElem?_cons_succ, hi, ha, hb, he, far li, far la, far lb, ia, ib, ab]
    rw [hu.out]
    exact W0.out.keep (by omega) fun z hz => by repeat (first | rfl | rw [upd_ne _ _ (by omega)])
  obtain ⟨-, hnx⟩ := hno he
  have hp := checkHall_parts hnx.h0
  have hr := checkRec_parts hnx.r0
  obtain ⟨k, hk⟩ : ∃ k : Nat, who = k := ⟨who.toNat, by have := hr.1; simp only at this; omega⟩
  subst hk
  have hk3 : k < H.last.length := by have := hr.2.1; simp only at this; rw [hp.2.1]; omega
  obtain ⟨x, hx⟩ : ∃ x, H.last[k]? = some x := ⟨H.last[k], by simp⟩
  have hg : H.last.getD ((k : Int)).toNat S.Last.zero = x := by simp only [Int.toNat_natCast]; exact getD_of hx
  rw [if_neg (by simp [he]), hg] at hu
  subst he
  clear hN hno hnx hp hr hg
  by_cases hlt : x.seq < seq
  rotate_left
  · rw [if_neg hlt] at hu
    have hlt' : decide (x.seq < seq) = false := by simp; omega
    replace hu := hid hu
    simp -dsimp -implicitDefEqProofs [-getElem?_pos, -List.map_append, -List.map_set, List.getElem?_cons_zero, List.getElem?_cons_succ, hi, ha, hb, far li, far la, far lb, ia, ib, ab]
    refine call_CC (cn.out) ?_
    simp -dsimp -implicitDefEqProofs [-getElem?_pos, -List.map_append, -List.map_set, List.getElem?_cons_zero, List.getElem?_cons_succ, hi, ha, hb, hx, hlt', far li, far la, far lb, ia, ib, ab]
    refine call_CSx (post_world (w := ⟨H, d, up, hand, mail⟩) (m := ⟨true, k, seq, S.Cmd.zero, A⟩) (W0.out.up (by omega) fun z hz => by repeat (first | rfl | rw [upd_ne _ _ (by omega)])).sub hm sub_back) ?_
    intro h' n' r hW
    simp -dsimp -implicitDefEqProofs [-getElem?_pos, -List.map_append, -List.map_set, List.getElem?_cons_zero, List.getElem?_cons_succ]
    rw [hu.out]
    exact hW.after (by omega) (fun z hz _ _ _ => by repeat (first | rfl | rw [upd_ne _ _ (by omega)])) la lb li (by omega)
  rw [if_pos hlt] at hu
  have hlt' : decide (x.seq < seq) = true := by simp; omega
  obtain ⟨⟨X, e1⟩, hP⟩ : ∃ q, S.putDisk d ⟨k, seq, c⟩ = q := ⟨_, rfl⟩
  have cp := hid (put_eq hP)
  rw [hP] at hu
  simp only at hu
  clear hP
  by_cases he1 : e1 = 0
  rotate_left
  · rw [if_pos he1] at hu
    replace hu := hid hu
    simp -dsimp -implicitDefEqProofs [-getElem?_pos, -List.map_append, -List.map_set, List.getElem?_cons_zero, List.getElem?_cons_succ, hi, ha, hb, far li, far la, far lb, ia, ib, ab]
    refine call_CC (cn.out) ?_
    simp -dsimp -implicitDefEqProofs [-getElem?_pos, -List.map_append, -List.map_set, List.getElem?_cons_zero, List.getElem?_cons_succ, hi, ha, hb, hx, hlt', far li, far la, far lb, ia, ib, ab]
    refine call_CC (cp.out) ?_
    simp -dsimp -implicitDefEqProofs [-getElem?_pos, -List.map_append, -List.map_set, List.getElem?_cons_zero, List.getElem?_cons_succ, hi, ha, hb, he1, far li, far la, far lb, ia, ib, ab]
    rw [hu.out]
    exact W0.out.keep (by omega) fun z hz => by repeat (first | rfl | rw [upd_ne _ _ (by omega)])
  subst he1
  rw [if_neg (by simp)] at hu
  obtain ⟨⟨Y, e2⟩, hS⟩ : ∃ q, S.syncDisk X = q := ⟨_, rfl⟩
  have cs := hid (sync_eq hS)
  rw [hS] at hu
  simp only at hu
  clear hS
  by_cases he2 : e2 = 0
  rotate_left
  · rw [if_pos he2] at hu
    replace hu := hid hu
    simp -dsimp -implicitDefEqProofs [-getElem?_pos, -List.map_append, -List.map_set, List.getElem?_cons_zero, List.getElem?_cons_succ, hi, ha, hb, far li, far la, far lb, ia, ib, ab]
    refine call_CC (cn.out) ?_
    simp -dsimp -implicitDefEqProofs [-getElem?_pos, -List.map_append, -List.map_set, List.getElem?_cons_zero, List.getElem?_cons_succ, hi, ha, hb, hx, hlt', far li, far la, far lb, ia, ib, ab]
    refine call_CC (cp.out) ?_
    simp -dsimp -implicitDefEqProofs [-getElem?_pos, -List.map_append, -List.map_set, List.getElem?_cons_zero, List.getElem?_cons_succ, hi, ha, hb, far li, far la, far lb, ia, ib, ab]
    refine call_CC (cs.out) ?_
    simp -dsimp -implicitDefEqProofs [-getElem?_pos, -List.map_append, -List.map_set, List.getElem?_cons_zero, List.getElem?_cons_succ, hi, ha, hb, he2, far li, far la, far lb, ia, ib, ab]
    rw [hu.out]
    exact W0.out.keep (by omega) fun z hz => by repeat (first | rfl | rw [upd_ne _ _ (by omega)])
  subst he2
  rw [if_neg (by simp)] at hu
  replace hu := hid hu
  simp -dsimp -implicitDefEqProofs [-getElem?_pos, -List.map_append, -List.map_set, List.getElem?_cons_zero, List.getElem?_cons_succ, hi, ha, hb, far li, far la, far lb, ia, ib, ab]
  refine call_CC (cn.out) ?_
  simp -dsimp -implicitDefEqProofs [-getElem?_pos, -List.map_append, -List.map_set, List.getElem?_cons_zero, List.getElem?_cons_succ, hi, ha, hb, hx, hlt', far li, far la, far lb, ia, ib, ab]
  refine call_CC (cp.out) ?_
  simp -dsimp -implicitDefEqProofs [-getElem?_pos, -List.map_append, -List.map_set, List.getElem?_cons_zero, List.getElem?_cons_succ, hi, ha, hb, far li, far la, far lb, ia, ib, ab]
  refine call_CC (cs.out) ?_
  simp -dsimp -implicitDefEqProofs [-getElem?_pos, -List.map_append, -List.map_set, List.getElem?_cons_zero, List.getElem?_cons_succ, hi, ha, hb, far li, far la, far lb, ia, ib, ab]
  refine call_CSx (post_world (w := ⟨M, Y, up, hand, mail⟩) (m := ⟨true, k, seq, S.Cmd.zero, A⟩) (W0.out.put (v := ⟨M, Y, up, hand, mail⟩) (by omega) ?_ rfl rfl (by repeat (first | exact upd_same _ _ _ | rw [upd_ne _ _ (by omega)])) (fun z hz hzi => by repeat (first | rfl | rw [upd_ne _ _ (by omega)]))) hm sub_back) ?_
  · exact .cons (.lst (fun h => h) (SubR.refl _)) (.cons (.lst (fun h => h) (SubR.refl _)) (.cons (.refl _) (.cons (.refl _) (.cons (.lst (fun h => h) (SubR.refl _)) (.cons (.lst (fun h => h) (SubR.refl _)) (.cons (.lst (fun h => h) (SubR.refl _)) (SubL.reflF _)))))))
  · intro h' n' r hW
    simp -dsimp -implicitDefEqProofs [-getElem?_pos, -List.map_append, -List.map_set, List.getElem?_cons_zero, List.getElem?_cons_succ]
    rw [hu.out]
    exact hW.after (by omega) (fun z hz _ _ _ => by repeat (first | rfl | rw [upd_ne _ _ (by omega)])) la lb li (by omega)
end Go.Proofs.YtginfkadmjikhaaGreatDoor.E
namespace Go.Proofs.YtginfkadmjikhaaGreatDoor.E
open Go.RowKit Go.Proofs
set_option linter.unusedVariables false
set_option linter.unusedSimpArgs false
set_option maxRecDepth 100000
set_option maxHeartbeats 2000000
structure Happ (h0 : Heap) (n0 i a b : Nat) (q : S.World × Int) (h : Heap) (n : Nat) (r : AV) : Prop where
  hr : r = Int' q.2
  hn : n0 ≤ n
  rest : ∀ z, z < n0 → z ≠ i → z ≠ a → z ≠ b → h z = h0 z
  ok : q.2 = 0 → WOut h0 n0 i a b q.1 h n
structure HappS (h0 : Heap) (n0 i a b : Nat) (q : S.World × Int) (h : Heap) (n : Nat) (r : AV) : Prop where
  hr : r = Int' q.2
  hn : n0 ≤ n
  rest : ∀ z, z < n0 → z ≠ i → z ≠ a → z ≠ b → h z = h0 z
  ok : q.2 = 0 → ∃ b', WSub h n i a b' q.1 ∧ (b' = b ∨ n0 ≤ b')
theorem CS.happ {f : FuncId} {args : List AV} {h0 : Heap} {n0 i a b : Nat} {q : S.World × Int} (hc : CS Tryz.prog f args h0 n0 (HappS h0 n0 i a b q)) : CS Tryz.prog f args h0 n0 (Happ h0 n0 i a b q) := by
  refine hc.sub ?_
  rintro h n r ⟨h1, h2, h3, h4⟩
  by_cases g : q.2 = 0
  · obtain ⟨b', W, hb⟩ := h4 g
    obtain ⟨h', s1, s2, s3⟩ := W.at'
    have hr : ∀ z, z < n0 → z ≠ i → z ≠ a → z ≠ b → h' z = h0 z := fun z z1 z2 z3 z4 => (s3 z z2 z3 (by omega)).trans (h3 z z1 z2 z3 z4)
    exact ⟨h', s1, h1, h2, hr, fun _ => ⟨⟨b', s2, hb⟩, h2, hr⟩⟩
  · exact ⟨h, HSub.refl h, h1, h2, h3, fun e => absurd e g⟩
theorem Happ.frame {h0 h' : Heap} {n0 i a b : Nat} {q : S.World × Int} (s3 : ∀ z, z ≠ i → z ≠ a → z ≠ b → h' z = h0 z) {h1 : Heap} {n : Nat} {r : AV} (h2 : Happ h' n0 i a b q h1 n r) : Happ h0 n0 i a b q h1 n r :=
  ⟨h2.hr, h2.hn, fun z g1 g2 g3 g4 => (h2.rest z g1 g2 g3 g4).trans (s3 z g2 g3 g4), fun e => (h2.ok e).frame s3⟩
theorem HappS.bad {h0 h : Heap} {n0 n i a b : Nat} {w : S.World} {e : Int} (he : e ≠ 0) (hn : n0 ≤ n) (hh : ∀ z, z < n0 → z ≠ i → z ≠ a → z ≠ b → h z = h0 z) : HappS h0 n0 i a b (w, e) h n (Int' e) := ⟨rfl, hn, hh, fun g => absurd g he⟩
theorem world_power (w : S.World) (x : S.Hap) (i a b n0 : Nat) (h0 : Heap) (W : WAt h0 n0 i a b w) (hk : x.kind = 6 ∨ x.kind = 7) :
    CS Tryz.prog 109 [.ptr i 10 0 0, .agg (hapC false x)] h0 n0 (Happ h0 n0 i a b (S.power w x)) := by
  refine CS.happ ?_
  have W0 := W
  obtain ⟨hi, ha, hb, li, la, lb, ia, ib, ab⟩ := W
  replace W0 := hid W0
  obtain ⟨H, d, up, hand, mail⟩ := w
  obtain ⟨nn, rfl⟩ : ∃ nn, n0 = nn + 1 := ⟨n0 - 1, by omega⟩
  obtain ⟨kind, who, n, c⟩ := x
  simp only at ha hb hk
  obtain ⟨u, hu⟩ : ∃ u, u = S.power ⟨H, d, up, hand, mail⟩ ⟨kind, who, n, c⟩ := ⟨_, rfl⟩
  rw [← hu]
  unfold S.power at hu
  simp only at hu
  refine CS_inlineG (typesOk _) [(11, [5052])] Tryz.func109 (fun _ _ => by kernel_rfl) rfl (by kernel_rfl) (Nat.le_of_ble_eq_true rfl) ?_
  rcases hk with rfl | rfl
  · cases up with
    | false =>
      rw [if_pos (by simp)] at hu
      simp -dsimp -implicitDefEqProofs [-getElem?_pos, -List.map_append, -List.map_set, List.getElem?_cons_zero, List.getElem?_cons_succ, hi, ha, hb, far li, far la, far lb, ia, ib, ab]
      rw [hu]
      exact .bad (by decide) (by omega) fun z hz _ _ _ => by repeat (first | rfl | rw [upd_ne _ _ (by omega)])
    | true =>
      rw [if_neg (by simp), if_pos rfl] at hu
      simp -dsimp -implicitDefEqProofs [-getElem?_pos, -List.map_append, -List.map_set, List.getElem?_cons_zero, List.getElem?_cons_succ, hi, ha, hb, far li, far la, far lb, ia, ib, ab]
      refine call_CC (hall_New) ?_
      simp -dsimp -implicitDefEqProofs [-getElem?_pos, -List.map_append, -List.map_set, List.getElem?_cons_zero, List.getElem?_cons_succ, hi, ha, hb, far li, far la, far lb, ia, ib, ab]
      rw [hu]
      exact ⟨rfl, by omega, fun z hz _ _ _ => by repeat (first | rfl | rw [upd_ne _ _ (by omega)]), fun _ => ⟨b, W0.out.put (by omega) (.cons (.lst (fun h => h) (SubR.refl _)) (.cons (.lst (fun h => h) (SubR.refl _)) (.cons (.refl _) (.cons (.refl _) (.cons (.lst (fun h => h) (SubR.refl _)) (SubL.reflF _)))))) rfl rfl (by repeat (first | exact upd_same _ _ _ | rw [upd_ne _ _ (by omega)])) (fun z hz hzi => by repeat (first | rfl | rw [upd_ne _ _ (by omega)])), .inl rfl⟩⟩
  · cases up with
    | true =>
      rw [if_pos (by simp)] at hu
      simp -dsimp -implicitDefEqProofs [-getElem?_pos, -List.map_append, -List.map_set, List.getElem?_cons_zero, List.getElem?_cons_succ, hi, ha, hb, far li, far la, far lb, ia, ib, ab]
      rw [hu]
      exact .bad (by decide) (by omega) fun z hz _ _ _ => by repeat (first | rfl | rw [upd_ne _ _ (by omega)])
    | false =>
      rw [if_neg (by simp), if_neg (by simp)] at hu
      obtain ⟨⟨X, L, e⟩, hR⟩ : ∃ q, S.recoverDisk d = q := ⟨_, rfl⟩
      have cr := hid (recoverT_eq hR)
      rw [hR] at hu
      simp only at hu
      clear hR
      by_cases he : e = 0
      rotate_left
      · rw [if_pos he] at hu
        simp -dsimp -implicitDefEqProofs [-getElem?_pos, -List.map_append, -List.map_set, List.getElem?_cons_zero, List.getElem?_cons_succ, hi, ha, hb, far li, far la, far lb, ia, ib, ab]
        refine call_CC (cr.out) ?_
        simp -dsimp -implicitDefEqProofs [-getElem?_pos, -List.map_append, -List.map_set, List.getElem?_cons_zero, List.getElem?_cons_succ, hi, ha, hb, he, far li, far la, far lb, ia, ib, ab]
        rw [hu]
        exact .bad he (by omega) fun z hz _ _ _ => by repeat (first | rfl | rw [upd_ne _ _ (by omega)])
      subst he
      rw [if_neg (by simp)] at hu
      obtain ⟨⟨G, f⟩, hG⟩ : ∃ q, S.replay L = q := ⟨_, rfl⟩
      have cp := hid (replay1_eq hG)
      rw [hG] at hu
      simp only at hu
      clear hG
      by_cases hf : f = 0
      rotate_left
      · rw [if_pos hf] at hu
        simp -dsimp -implicitDefEqProofs [-getElem?_pos, -List.map_append, -List.map_set, List.getElem?_cons_zero, List.getElem?_cons_succ, hi, ha, hb, far li, far la, far lb, ia, ib, ab]
        refine call_CC (cr.out) ?_
        simp -dsimp -implicitDefEqProofs [-getElem?_pos, -List.map_append, -List.map_set, List.getElem?_cons_zero, List.getElem?_cons_succ, hi, ha, hb, far li, far la, far lb, ia, ib, ab]
        refine call_CC (cp.out) ?_
        simp -dsimp -implicitDefEqProofs [-getElem?_pos, -List.map_append, -List.map_set, List.getElem?_cons_zero, List.getElem?_cons_succ, hi, ha, hb, hf, far li, far la, far lb, ia, ib, ab]
        rw [hu]
        exact .bad hf (by omega) fun z hz _ _ _ => by repeat (first | rfl | rw [upd_ne _ _ (by omega)])
      subst hf
      rw [if_neg (by simp)] at hu
      simp -dsimp -implicitDefEqProofs [-getElem?_pos, -List.map_append, -List.map_set, List.getElem?_cons_zero, List.getElem?_cons_succ, hi, ha, hb, far li, far la, far lb, ia, ib, ab]
      refine call_CC (cr.out) ?_
      simp -dsimp -implicitDefEqProofs [-getElem?_pos, -List.map_append, -List.map_set, List.getElem?_cons_zero, List.getElem?_cons_succ, hi, ha, hb, far li, far la, far lb, ia, ib, ab]
      refine call_CC (cp.out) ?_
      simp -dsimp -implicitDefEqProofs [-getElem?_pos, -List.map_append, -List.map_set, List.getElem?_cons_zero, List.getElem?_cons_succ, hi, ha, hb, far li, far la, far lb, ia, ib, ab]
      rw [hu]
      exact ⟨rfl, by omega, fun z hz _ _ _ => by repeat (first | rfl | rw [upd_ne _ _ (by omega)]), fun _ => ⟨b, W0.out.put (by omega) (.cons (.lst (fun h => h) (SubR.refl _)) (.cons (.lst (fun h => h) (SubR.refl _)) (.cons (.refl _) (.cons (.refl _) (.cons (.lst (fun h => h) (SubR.refl _)) (SubL.reflF _)))))) rfl rfl (by repeat (first | exact upd_same _ _ _ | rw [upd_ne _ _ (by omega)])) (fun z hz hzi => by repeat (first | rfl | rw [upd_ne _ _ (by omega)])), .inl rfl⟩⟩
end Go.Proofs.YtginfkadmjikhaaGreatDoor.E
