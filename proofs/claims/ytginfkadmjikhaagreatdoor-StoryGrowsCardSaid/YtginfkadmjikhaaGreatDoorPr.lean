
/- Pr: law.StoryGrows. -/
import Derived.Test.YtginfkadmjikhaaGreatDoorPn
namespace Go.Proofs.YtginfkadmjikhaaGreatDoor.E
open Go.RowKit Go.Proofs
set_option linter.unusedVariables false
set_option linter.unusedSimpArgs false
set_option maxRecDepth 100000
set_option maxHeartbeats 2000000
structure GrowAt (h : Heap) (p q : Nat) (L : List S.Rec) (A : List S.Answer) : Prop where
  hp : ∃ v, h p = some ⟨50, 1, [[v]]⟩ ∧ ((v = .nl ∧ L = []) ∨ v = .lst false 7 (L.map (recC false)))
  hq : ∃ v, h q = some ⟨53, 1, [[v]]⟩ ∧ ((v = .nl ∧ A = []) ∨ v = .lst false 3 (A.map (ansC false)))
theorem grows_1 (w : S.World) (L L0 : List S.Rec) (A0 : List S.Answer) (p q n0 : Nat) (h0 : Heap) (ho : Once w L) (hg : GrowAt h0 p q L0 A0) (hpq : p ≠ q) (hp : p < n0) (hq : q < n0)
    (h1 : L.take L0.length = L0) (h2 : (answersFrom S.Hall.new L).take A0.length = A0) :
    CS Tryz.prog 57 [.agg (worldC false w), .ptr p 1 0 0, .ptr q 1 0 0] h0 n0 (fun h n r => r = Bool' true ∧ n0 ≤ n ∧ GrowAt h p q L (answersFrom S.Hall.new L) ∧ ∀ z, z < n0 → z ≠ p → z ≠ q → h z = h0 z) := by
  have c1 := hid (done_eq (reach_done ho.reach))
  obtain ⟨A, hA⟩ : ∃ A, answersFrom S.Hall.new L = A := ⟨_, rfl⟩
  have c2 := reach_told ho.reach
  rw [hA] at c2 h2 ⊢
  replace c2 := hid (told_eq c2)
  obtain ⟨⟨v, hv, hvL⟩, ⟨u, hu, huA⟩⟩ := hg
  have g1 : L0.length ≤ L.length := by
    have := congrArg List.length h1
    rw [List.length_take] at this
    omega
  have g2 : A0.length ≤ A.length := by
    have := congrArg List.length h2
    rw [List.length_take] at this
    omega
  have g3 : decide ((L.length : Int) < (L0.length : Int)) = false := by simp; omega
  have g4 : decide (L.length < L0.length) = false := by simp; omega
  have e1 : (L.map (recC false)).take L0.length = L0.map (recC false) := by rw [← List.map_take, h1]
  have e2 : (A.map (ansC false)).take A0.length = A0.map (ansC false) := by rw [← List.map_take, h2]
  have c3 : C Tryz.prog 29 [.lst false 7 (L0.map (recC false)), .lst false 7 (L0.map (recC false)), .fn 58 []] (Bool' true) [] := by
    have := equal_recs L0 L0
    rwa [decide_eq_true rfl] at this
  have c4 : C Tryz.prog 31 [.lst false 3 (A0.map (ansC false)), .lst false 3 (A0.map (ansC false)), .fn 44 []] (Bool' true) [] := by
    have := eqAll_dec A0 A0 ▸ equalFunc_answers (f := 44) (fun _ => rfl) A0 A0 (fun x y _ _ => law_sameAnswer x y) (fun _ _ => ⟨rfl, rfl⟩)
    rwa [decide_eq_true rfl] at this
  replace c4 := hid c4
  replace c3 := hid c3
  have hqp : ¬ q = p := fun g => hpq g.symm
  replace h1 := hid h1
  replace h2 := hid h2
  clear ho hA
  obtain ⟨H0, d, up, hand, mail⟩ := w
  have g5 : decide ((L.length : Int) < 0) = false := by simp
  rcases hvL with ⟨rfl, rfl⟩ | rfl
  · have c3' := hid (c3.out.args (args2 := [.lst false 7 [], .nl, .fn 58 []]) (.cons (.refl _) (.cons (.leaf .nl) (.cons (.refl _) (.nil _)))))
    rcases huA with ⟨rfl, rfl⟩ | rfl
    · have c4' := hid (c4.out.args (args2 := [.lst false 3 [], .nl, .fn 44 []]) (.cons (.refl _) (.cons (.leaf .nl) (.cons (.refl _) (.nil _)))))
      refine CS_inline (typesOk _) Tryz.func57 (fun _ _ => by kernel_rfl) rfl (by kernel_rfl) (Nat.le_of_ble_eq_true rfl) ?_
      simp -dsimp -implicitDefEqProofs [-getElem?_pos, -List.map_append, -List.map_set, List.getElem?_cons_zero, List.getElem?_cons_succ, hv, hu, far hp, far hq]
      refine call_CC (c1.out) ?_
      simp -dsimp -implicitDefEqProofs [-getElem?_pos, -List.map_append, -List.map_set, List.getElem?_cons_zero, List.getElem?_cons_succ, hv, hu, far hp, far hq]
      refine call_CC (c2.out) ?_
      simp -dsimp -implicitDefEqProofs [-getElem?_pos, -List.map_append, -List.map_set, List.getElem?_cons_zero, List.getElem?_cons_succ, hv, hu, far hp, far hq, hpq, hqp, g1, g2, g3, g4, g5, e1, e2]
      refine call_CC (c3'.out) ?_
      simp -dsimp -implicitDefEqProofs [-getElem?_pos, -List.map_append, -List.map_set, List.getElem?_cons_zero, List.getElem?_cons_succ, hv, hu, far hp, far hq, hpq, hqp, g1, g2, g3, g4, g5, e1, e2]
      refine call_CC (c4'.out) ?_
      simp -dsimp -implicitDefEqProofs [-getElem?_pos, -List.map_append, -List.map_set, List.getElem?_cons_zero, List.getElem?_cons_succ, hv, hu, far hp, far hq, hpq, hqp, g1, g2, g3, g4, g5, e1, e2]
      exact ⟨by omega, ⟨⟨_, by rw [upd_ne _ _ hpq, upd_same], .inr rfl⟩, ⟨_, upd_same _ _ _, .inr rfl⟩⟩, fun z z1 z2 z3 => by rw [if_neg z3, if_neg z2, if_neg (by omega)]⟩
    · refine CS_inline (typesOk _) Tryz.func57 (fun _ _ => by kernel_rfl) rfl (by kernel_rfl) (Nat.le_of_ble_eq_true rfl) ?_
      simp -dsimp -implicitDefEqProofs [-getElem?_pos, -List.map_append, -List.map_set, List.getElem?_cons_zero, List.getElem?_cons_succ, hv, hu, far hp, far hq]
      refine call_CC (c1.out) ?_
      simp -dsimp -implicitDefEqProofs [-getElem?_pos, -List.map_append, -List.map_set, List.getElem?_cons_zero, List.getElem?_cons_succ, hv, hu, far hp, far hq]
      refine call_CC (c2.out) ?_
      simp -dsimp -implicitDefEqProofs [-getElem?_pos, -List.map_append, -List.map_set, List.getElem?_cons_zero, List.getElem?_cons_succ, hv, hu, far hp, far hq, hpq, hqp, g1, g2, g3, g4, g5, e1, e2]
      refine call_CC (c3'.out) ?_
      simp -dsimp -implicitDefEqProofs [-getElem?_pos, -List.map_append, -List.map_set, List.getElem?_cons_zero, List.getElem?_cons_succ, hv, hu, far hp, far hq, hpq, hqp, g1, g2, g3, g4, g5, e1, e2]
      refine call_CC (c4.out) ?_
      simp -dsimp -implicitDefEqProofs [-getElem?_pos, -List.map_append, -List.map_set, List.getElem?_cons_zero, List.getElem?_cons_succ, hv, hu, far hp, far hq, hpq, hqp, g1, g2, g3, g4, g5, e1, e2]
      exact ⟨by omega, ⟨⟨_, by rw [upd_ne _ _ hpq, upd_same], .inr rfl⟩, ⟨_, upd_same _ _ _, .inr rfl⟩⟩, fun z z1 z2 z3 => by rw [if_neg z3, if_neg z2, if_neg (by omega)]⟩
  · rcases huA with ⟨rfl, rfl⟩ | rfl
    · have c4' := hid (c4.out.args (args2 := [.lst false 3 [], .nl, .fn 44 []]) (.cons (.refl _) (.cons (.leaf .nl) (.cons (.refl _) (.nil _)))))
      refine CS_inline (typesOk _) Tryz.func57 (fun _ _ => by kernel_rfl) rfl (by kernel_rfl) (Nat.le_of_ble_eq_true rfl) ?_
      simp -dsimp -implicitDefEqProofs [-getElem?_pos, -List.map_append, -List.map_set, List.getElem?_cons_zero, List.getElem?_cons_succ, hv, hu, far hp, far hq]
      refine call_CC (c1.out) ?_
      simp -dsimp -implicitDefEqProofs [-getElem?_pos, -List.map_append, -List.map_set, List.getElem?_cons_zero, List.getElem?_cons_succ, hv, hu, far hp, far hq]
      refine call_CC (c2.out) ?_
      simp -dsimp -implicitDefEqProofs [-getElem?_pos, -List.map_append, -List.map_set, List.getElem?_cons_zero, List.getElem?_cons_succ, hv, hu, far hp, far hq, hpq, hqp, g1, g2, g3, g4, g5, e1, e2]
      refine call_CC (c3.out) ?_
      simp -dsimp -implicitDefEqProofs [-getElem?_pos, -List.map_append, -List.map_set, List.getElem?_cons_zero, List.getElem?_cons_succ, hv, hu, far hp, far hq, hpq, hqp, g1, g2, g3, g4, g5, e1, e2]
      refine call_CC (c4'.out) ?_
      simp -dsimp -implicitDefEqProofs [-getElem?_pos, -List.map_append, -List.map_set, List.getElem?_cons_zero, List.getElem?_cons_succ, hv, hu, far hp, far hq, hpq, hqp, g1, g2, g3, g4, g5, e1, e2]
      exact ⟨by omega, ⟨⟨_, by rw [upd_ne _ _ hpq, upd_same], .inr rfl⟩, ⟨_, upd_same _ _ _, .inr rfl⟩⟩, fun z z1 z2 z3 => by rw [if_neg z3, if_neg z2, if_neg (by omega)]⟩
    · refine CS_inline (typesOk _) Tryz.func57 (fun _ _ => by kernel_rfl) rfl (by kernel_rfl) (Nat.le_of_ble_eq_true rfl) ?_
      simp -dsimp -implicitDefEqProofs [-getElem?_pos, -List.map_append, -List.map_set, List.getElem?_cons_zero, List.getElem?_cons_succ, hv, hu, far hp, far hq]
      refine call_CC (c1.out) ?_
      simp -dsimp -implicitDefEqProofs [-getElem?_pos, -List.map_append, -List.map_set, List.getElem?_cons_zero, List.getElem?_cons_succ, hv, hu, far hp, far hq]
      refine call_CC (c2.out) ?_
      simp -dsimp -implicitDefEqProofs [-getElem?_pos, -List.map_append, -List.map_set, List.getElem?_cons_zero, List.getElem?_cons_succ, hv, hu, far hp, far hq, hpq, hqp, g1, g2, g3, g4, g5, e1, e2]
      refine call_CC (c3.out) ?_
      simp -dsimp -implicitDefEqProofs [-getElem?_pos, -List.map_append, -List.map_set, List.getElem?_cons_zero, List.getElem?_cons_succ, hv, hu, far hp, far hq, hpq, hqp, g1, g2, g3, g4, g5, e1, e2]
      refine call_CC (c4.out) ?_
      simp -dsimp -implicitDefEqProofs [-getElem?_pos, -List.map_append, -List.map_set, List.getElem?_cons_zero, List.getElem?_cons_succ, hv, hu, far hp, far hq, hpq, hqp, g1, g2, g3, g4, g5, e1, e2]
      exact ⟨by omega, ⟨⟨_, by rw [upd_ne _ _ hpq, upd_same], .inr rfl⟩, ⟨_, upd_same _ _ _, .inr rfl⟩⟩, fun z z1 z2 z3 => by rw [if_neg z3, if_neg z2, if_neg (by omega)]⟩
theorem subW (w : S.World) : SubL SubF (worldC true w) (worldC false w) :=
  .cons (.lst (fun h => by cases h) (SubR.refl _)) (.cons (.lst (fun h => by cases h) (SubR.refl _)) (.cons (.refl _) (.cons (.refl _) (.cons (.lst (fun h => by cases h) (SubR.refl _)) (.cons (.lst (fun h => by cases h) (SubR.refl _)) (.cons (.lst (fun h => by cases h) (SubR.refl _)) (.cons (.refl _) (.cons (.lst (fun h => by cases h) (SubR.refl _)) (.cons (.lst (fun h => by cases h) (SubR.refl _)) (.nil _))))))))))
theorem GrowAt.of {h h' : Heap} {p q : Nat} {L : List S.Rec} {A : List S.Answer} (g : GrowAt h p q L A) (h1 : h' p = h p) (h2 : h' q = h q) : GrowAt h' p q L A := by
  obtain ⟨⟨v, hv, hv2⟩, ⟨u, hu, hu2⟩⟩ := g
  exact ⟨⟨v, h1.trans hv, hv2⟩, ⟨u, h2.trans hu, hu2⟩⟩
def GrowLoop (h : Heap) (i p q : Nat) (l : List S.Hap) : Prop := ∃ (w : S.World) (L : List S.Rec), h i = some ⟨37, 10, [worldC true w]⟩ ∧ Once w L ∧ GrowAt h p q L (answersFrom S.Hall.new L)
theorem played_grows (l : List S.Hap) (p q n0 : Nat) (h0 : Heap) (hg : GrowAt h0 p q [] []) (hpq : p ≠ q) (hp : p < n0) (hq : q < n0) :
    CS Tryz.prog 42 [.lst false 8 (l.map (hapC false)), .fn 57 [.ptr p 1 0 0, .ptr q 1 0 0]] h0 n0 (fun h n r => n0 ≤ n ∧ ∃ w, r = .tup [.agg (worldC true w), Bool' true]) := by
  obtain ⟨m, hmE⟩ : ∃ m : Nat, min 90 l.length = m := ⟨_, rfl⟩
  have hm : (if (90 : Int) < l.length then (90 : Int) else l.length) = (m : Int) := by split <;> omega
  have hml : m ≤ l.length := by omega
  have hm20 := hid (show m ≤ 90 by omega)
  have hmm : min m l.length = m := by omega
  clear hmE
  refine CS_inline (typesOk _) Tryz.func42 (fun _ _ => by kernel_rfl) rfl (by kernel_rfl) (Nat.le_of_ble_eq_true rfl) ?_
  simp -dsimp -implicitDefEqProofs [-getElem?_pos, -List.map_append, -List.map_set, List.getElem?_cons_zero, List.getElem?_cons_succ]
  refine call_CC (world_New) ?_
  simp -dsimp -implicitDefEqProofs [-getElem?_pos, -List.map_append, -List.map_set, List.getElem?_cons_zero, List.getElem?_cons_succ, hm, hml, hmm]
  refine loop_count 18 m (fun k h n t => GrowLoop h (n0 + 12) p q ((l.take m).drop k) ∧ h n0 = some ⟨37, 10, [[.nl, .nl, Int' 0, Int' 0, .nl, .nl, .nl, Bool' false, .nl, .nl]]⟩ ∧ n0 + 48 ≤ n) _ rfl (by rfl) ⟨⟨S.World.new, [], by dsimp only; repeat (first | exact upd_same _ _ _ | rw [upd_ne _ _ (by omega)]), once_new, hg.of (by dsimp only; repeat (first | rfl | rw [upd_ne _ _ (by omega)])) (by dsimp only; repeat (first | rfl | rw [upd_ne _ _ (by omega)]))⟩, by dsimp only; repeat (first | exact upd_same _ _ _ | rw [upd_ne _ _ (by omega)]), by dsimp only; omega⟩ ?_ ?_
  · rintro k t h n hk hci hs ⟨⟨w, L, h12, ho, hgl⟩, h0, hn⟩
    obtain ⟨n1, rfl⟩ : ∃ n1, n = n1 + 1 := ⟨n - 1, by omega⟩
    have hw : IntKind.i64.wrap ((k : Int) + 1) = (k : Int) + 1 := wrap_ok (by have := hm20.out; omega)
    obtain ⟨x, hx⟩ : ∃ x, l[k]? = some x := ⟨l[k]'(by omega), by simp⟩
    have hxm : (l.take m)[k]? = some x := by rw [List.getElem?_take, if_pos hk, hx]
    have hxr : ((l.map (hapC false)).take m)[k]? = some (hapC false x) := by rw [List.getElem?_take, if_pos hk, List.getElem?_map, hx]; rfl
    have hk' : decide (k < m) = true := by simp [hk]
    obtain ⟨⟨v, e⟩, hD⟩ : ∃ q, S.doWorld w x = q := ⟨_, rfl⟩
    have cd := hid (doW_eq hD)
    have hdo := fun g => do_once (x := x) ho g
    rw [hD] at hdo
    simp only at hdo
    clear hD
    have e1 := hs 1 rfl
    have e4 := hs 4 rfl
    have e6 := hs 6 rfl
    have e16 := hs 16 rfl
    have e17 := hs 17 rfl
    clear hs
    simp -dsimp -implicitDefEqProofs at e1 e4 e6 e16 e17
    replace hk := hid hk
    obtain ⟨i, hi⟩ : ∃ i, n0 + 12 = i := ⟨_, rfl⟩
    rw [hi] at e6 h12
    have i12 : i < n1 + 1 := by omega
    have i0 : n0 < n1 + 1 := by omega
    have ni : ¬ n0 = i := by omega
    have ni' : ¬ i = n0 := by omega
    rw [hi]
    by_cases he : e = 0
    · subst he
      obtain ⟨L2, ho2, s1, s2⟩ := hdo rfl
      have hgl' := hid hgl
      have ho2' := hid ho2
      have s1' := hid s1
      have s2' := hid s2
      have ho' := hid ho
      clear hdo ho hgl ho2 s1 s2
      simp -dsimp -implicitDefEqProofs [-getElem?_pos, -List.map_append, -List.map_set, List.getElem?_cons_zero, List.getElem?_cons_succ, e1, e4, e6, e16, e17, hci, hk', hx, hxr, hk.out, h12, h0, ni, ni', far i12, far i0]
      refine call_CC (cd.out) ?_
      simp -dsimp -implicitDefEqProofs [-getElem?_pos, -List.map_append, -List.map_set, List.getElem?_cons_zero, List.getElem?_cons_succ, e1, e4, e6, e16, e17, h12, h0, ni, ni', far i12, far i0]
      refine call_CSx ((grows_1 v L2 L (answersFrom S.Hall.new L) p q _ _ ho2'.out (hgl'.out.of (by (try dsimp only); repeat (first | rfl | rw [upd_ne _ _ (by omega)])) (by (try dsimp only); repeat (first | rfl | rw [upd_ne _ _ (by omega)]))) hpq (by omega) (by omega) s1'.out (by rw [answersFrom_len]; exact s2'.out)).args (.cons (.agg (subW v)) (.cons (.refl _) (.cons (.refl _) (.nil _))))) ?_
      rintro h' n' z ⟨rfl, hn', hg', hr'⟩
      obtain ⟨n2, rfl⟩ : ∃ n2, n' = n2 + 1 := ⟨n' - 1, by omega⟩
      have g12 : h' i = some ⟨37, 10, [worldC true v]⟩ := (hr' i (by omega) (by omega) (by omega)).trans (by repeat (first | exact upd_same _ _ _ | rw [upd_ne _ _ (by omega)]))
      have g0 : h' n0 = some ⟨37, 10, [[.nl, .nl, Int' 0, Int' 0, .nl, .nl, .nl, Bool' false, .nl, .nl]]⟩ := (hr' n0 (by omega) (by omega) (by omega)).trans (by repeat (first | exact h0 | rw [upd_ne _ _ (by omega)]))
      clear hr' h0 h12
      simp -dsimp -implicitDefEqProofs [-getElem?_pos, -List.map_append, -List.map_set, List.getElem?_cons_zero, List.getElem?_cons_succ, e1, e4, e6, e16, e17, hci, hw, g12, g0]
      exact ⟨⟨v, L2, g12, ho2'.out, hg'⟩, by omega⟩
    · clear hdo
      replace ho := hid ho
      simp -dsimp -implicitDefEqProofs [-getElem?_pos, -List.map_append, -List.map_set, List.getElem?_cons_zero, List.getElem?_cons_succ, e1, e4, e6, e16, e17, hci, hk', hx, hxr, hk.out, h12, h0, ni, ni', far i12, far i0]
      refine call_CC (cd.out) ?_
      simp -dsimp -implicitDefEqProofs [-getElem?_pos, -List.map_append, -List.map_set, List.getElem?_cons_zero, List.getElem?_cons_succ, e1, e4, e6, e16, e17, hci, hw, he, h12, h0, ni, ni', far i12, far i0]
      exact ⟨⟨w, L, by repeat (first | exact h12 | rw [upd_ne _ _ (by omega)]), ho.out, hgl.of (by repeat (first | rfl | rw [upd_ne _ _ (by omega)])) (by repeat (first | rfl | rw [upd_ne _ _ (by omega)]))⟩, by omega⟩
  · rintro t h n hci hs ⟨⟨w, L, h12, ho, hgl⟩, h0, hn⟩
    obtain ⟨n1, rfl⟩ : ∃ n1, n = n1 + 1 := ⟨n - 1, by omega⟩
    clear ho
    have e1 := hs 1 rfl
    have e4 := hs 4 rfl
    have e6 := hs 6 rfl
    have e16 := hs 16 rfl
    have e17 := hs 17 rfl
    clear hs
    simp -dsimp -implicitDefEqProofs at e1 e4 e6 e16 e17
    simp -dsimp -implicitDefEqProofs [-getElem?_pos, -List.map_append, -List.map_set, List.getElem?_cons_zero, List.getElem?_cons_succ, e1, e4, e6, e16, e17, hci, h12, h0]
    exact ⟨by omega, w, rfl, rfl, rfl, rfl, rfl, rfl, rfl, rfl, rfl, rfl⟩
theorem law_StoryGrows (l : List S.Hap) : C Tryz.prog 14 [.lst false 8 (l.map (hapC false))] (Bool' true) [] := by
  refine C_inline [] Tryz.func14 (fun _ _ => by kernel_rfl) rfl (by kernel_rfl) (by rfl) (by decide) (by rfl) (by rfl) (by rfl) ?_
  simp -dsimp -implicitDefEqProofs [-getElem?_pos, -List.map_append, -List.map_set, List.getElem?_cons_zero, List.getElem?_cons_succ]
  refine call_CSx (played_grows l 4 8 48 _ ⟨⟨.nl, by rw [upd_ne _ _ (by omega), upd_same], .inl ⟨rfl, rfl⟩⟩, ⟨.nl, upd_same _ _ _, .inl ⟨rfl, rfl⟩⟩⟩ (by omega) (by omega) (by omega)) ?_
  rintro h' n' r ⟨hn, w, rfl⟩
  obtain ⟨n1, rfl⟩ : ∃ n1, n' = n1 + 1 := ⟨n' - 1, by omega⟩
  simp -dsimp -implicitDefEqProofs [-getElem?_pos, -List.map_append, -List.map_set, List.getElem?_cons_zero, List.getElem?_cons_succ]
  refine call_CC (law_told) ?_
  simp -dsimp -implicitDefEqProofs [-getElem?_pos, -List.map_append, -List.map_set, List.getElem?_cons_zero, List.getElem?_cons_succ]
  exact ends_bool rfl
end Go.Proofs.YtginfkadmjikhaaGreatDoor.E
