
/- Pn: story.Done, Told; law.told, played. -/
import Derived.Test.YtginfkadmjikhaaGreatDoorP5
import Derived.Test.YtginfkadmjikhaaGreatDoorWj
namespace Go.Proofs.YtginfkadmjikhaaGreatDoor.E
open Go.RowKit Go.Proofs
set_option linter.unusedVariables false
set_option linter.unusedSimpArgs false
set_option maxRecDepth 100000
set_option maxHeartbeats 2000000
theorem ends_li {h : Heap} {n : Nat} {c t : AV} {e e' : Int} (h2 : OutL h [c] [t]) (he : e = e') : Ends [] (.tup [t, Int' e']) [] h n (.tup [c, Int' e]) := by
  subst he
  obtain ⟨c2, o2, s2⟩ := h2
  obtain ⟨z, rest, hz, hr, rfl⟩ := mapM_inv o2
  simp at hr
  subst hr
  have e2 : outAgg h [] c = some z := by
    unfold outAgg
    split
    · simp [outLeaf] at hz
    · exact hz
  refine ⟨⟨.tup [z, Int' e], ?_, .tup (.cons (.leaf (s2.2 0 z t rfl rfl)) (.cons (.refl _) (.nil _)))⟩, rfl⟩
  show (List.mapM (outAgg h []) [c, Int' e]).map AV.tup = _
  rw [List.mapM_cons, e2]
  rfl
abbrev doneWR (q : List S.Rec × Int) : AV := .tup [.lst false 7 (q.1.map (recC false)), Int' q.2]
theorem story_Done (w : S.World) : C Tryz.prog 24 [.agg (worldC false w)] (doneWR (S.doneWorld w)) [] := by
  obtain ⟨r, hr⟩ : ∃ r, S.doneWorld w = r := ⟨_, rfl⟩
  rw [hr]
  unfold S.doneWorld at hr
  by_cases hc : S.checkWorld w = 0
  rotate_left
  · rw [if_pos hc] at hr
    have c1 := hid (world_Check w)
    subst hr
    generalize S.checkWorld w = e at *
    refine C_inline [] Tryz.func24 (fun _ _ => by kernel_rfl) rfl (by kernel_rfl) (by rfl) (by decide) (by rfl) (by rfl) (by rfl) ?_
    simp -dsimp -implicitDefEqProofs [-getElem?_pos, -List.map_append, -List.map_set, List.getElem?_cons_zero, List.getElem?_cons_succ]
    refine call_CC (c1.out) ?_
    simp -dsimp -implicitDefEqProofs [-getElem?_pos, -List.map_append, -List.map_set, List.getElem?_cons_zero, List.getElem?_cons_succ, hc]
    exact ends_li outL rfl
  rw [if_neg (by simp [hc])] at hr
  have c1 := hid (check_eq hc)
  obtain ⟨⟨X, L, e⟩, hR⟩ : ∃ q, S.recoverDisk w.d = q := ⟨_, rfl⟩
  have cr := hid (recoverT_eq hR)
  rw [hR] at hr
  subst hr
  clear hR hc
  refine C_inline [] Tryz.func24 (fun _ _ => by kernel_rfl) rfl (by kernel_rfl) (by rfl) (by decide) (by rfl) (by rfl) (by rfl) ?_
  simp -dsimp -implicitDefEqProofs [-getElem?_pos, -List.map_append, -List.map_set, List.getElem?_cons_zero, List.getElem?_cons_succ]
  refine call_CC (c1.out) ?_
  simp -dsimp -implicitDefEqProofs [-getElem?_pos, -List.map_append, -List.map_set, List.getElem?_cons_zero, List.getElem?_cons_succ]
  refine call_CC (cr.out) ?_
  simp -dsimp -implicitDefEqProofs [-getElem?_pos, -List.map_append, -List.map_set, List.getElem?_cons_zero, List.getElem?_cons_succ]
  exact ends_li outL rfl
theorem doneW_eq {w : S.World} {q : List S.Rec × Int} (h : S.doneWorld w = q) : C Tryz.prog 24 [.agg (worldC false w)] (doneWR q) [] := h ▸ story_Done w
def ToldAt (h : Heap) (i n : Nat) (v : AV) (l : List S.Rec) (q : List S.Answer × Int) : Prop :=
  ∃ (H : S.Hall) (out : List S.Answer) (fr : Bool), h i = some ⟨30, 5, [hallC fr H]⟩ ∧ toldFrom H out l = q ∧ ((out = [] ∧ v = .nl) ∨ ∃ y, v = .own y 0 out.length ∧ i < y ∧ y < n ∧ h y = some ⟨66, 3, out.map (ansC true)⟩) ∧ out.length + l.length ≤ 100000
abbrev toldR (q : List S.Answer × Int) : AV := .tup [.lst false 3 (q.1.map (ansC false)), Int' q.2]
theorem story_Told (w : S.World) : C Tryz.prog 25 [.agg (worldC false w)] (toldR (toldWorld w)) [] := by
  obtain ⟨r, hr⟩ : ∃ r, toldWorld w = r := ⟨_, rfl⟩
  rw [hr]
  unfold toldWorld at hr
  obtain ⟨⟨l, e⟩, hd⟩ : ∃ q, S.doneWorld w = q := ⟨_, rfl⟩
  have c1 := hid (doneW_eq hd)
  rw [hd] at hr
  simp only at hr
  by_cases he : e = 0
  rotate_left
  · rw [if_pos he] at hr
    subst hr
    clear hd
    refine C_inlineG [(12, [10039, 10041])] [] Tryz.func25 (fun _ _ => by kernel_rfl) rfl (by kernel_rfl) (by rfl) (by decide) (by rfl) (by rfl) (by first | rfl | exact plain_I _ | exact plain_map (fun _ => rfl) _) ?_
    simp -dsimp -implicitDefEqProofs [-getElem?_pos, -List.map_append, -List.map_set, List.getElem?_cons_zero, List.getElem?_cons_succ]
    refine call_CC (c1.out) ?_
    simp -dsimp -implicitDefEqProofs [-getElem?_pos, -List.map_append, -List.map_set, List.getElem?_cons_zero, List.getElem?_cons_succ, he]
    exact ends_li outL rfl
  rw [if_neg (by simp [he])] at hr
  subst he
  have hl : l.length ≤ 1000 := by
    unfold S.doneWorld at hd
    split at hd
    · rename_i g; simp only [Prod.mk.injEq] at hd; exact absurd hd.2 g
    · rename_i g
      simp only [Prod.mk.injEq, and_true] at hd
      unfold S.recoverDisk at hd
      split at hd
      · simp only at hd; rw [← hd]; simp
      · simp only at hd
        rw [← hd]
        have r1 := S.lines_room w.d.safe (m := 80) (by omega)
        have r2 := S.lines_room w.d.wait (m := 80 - ((S.lines w.d.safe 80).1.length : Int)) (by omega)
        rw [List.length_append]
        unfold S.kept
        omega
  replace hr := hid hr
  refine C_inlineG [(12, [10039, 10041])] [] Tryz.func25 (fun _ _ => by kernel_rfl) rfl (by kernel_rfl) (by rfl) (by decide) (by rfl) (by rfl) (by first | rfl | exact plain_I _ | exact plain_map (fun _ => rfl) _) ?_
  simp -dsimp -implicitDefEqProofs [-getElem?_pos, -List.map_append, -List.map_set, List.getElem?_cons_zero, List.getElem?_cons_succ]
  refine call_CC (c1.out) ?_
  simp -dsimp -implicitDefEqProofs [-getElem?_pos, -List.map_append, -List.map_set, List.getElem?_cons_zero, List.getElem?_cons_succ]
  refine call_CC (hall_New) ?_
  simp -dsimp -implicitDefEqProofs [-getElem?_pos, -List.map_append, -List.map_set, List.getElem?_cons_zero, List.getElem?_cons_succ]
  refine loop_count 24 l.length (fun k h n t => ToldAt h 52 n (t 7) (l.drop k) r ∧ ∃ d, n = d + 76) _ rfl (by rfl) ⟨⟨S.Hall.new, [], true, rfl, hr.out, .inl ⟨rfl, rfl⟩, by simp; omega⟩, ⟨0, rfl⟩⟩ ?_ ?_
  · rintro k t h n hk hci hs ⟨⟨H, out, fr, h52, hq, hst, hln⟩, d, rfl⟩
    have hw : IntKind.i64.wrap ((k : Int) + 1) = (k : Int) + 1 := wrap_ok (by omega)
    obtain ⟨x, hx⟩ : ∃ x, l[k]? = some x := ⟨l[k], by simp⟩
    have hk' : decide (k < l.length) = true := by simp [hk]
    rw [drop_cons hx] at hq hln
    rw [toldFrom] at hq
    obtain ⟨⟨M, a, e⟩, hN⟩ : ∃ p, S.nextHall H x = p := ⟨_, rfl⟩
    have cn := hid (next_eq hN)
    rw [hN] at hq
    simp only [List.length_cons] at hq hln
    obtain ⟨sv, hsv⟩ : ∃ sv, t 7 = sv := ⟨_, rfl⟩
    rw [hsv] at hst
    clear hN c1
    have e6 := hs 6 rfl
    have e22 := hs 22 rfl
    have e23 := hs 23 rfl
    clear hs
    simp -dsimp -implicitDefEqProofs at e6 e22 e23
    replace hk := hid hk
    replace hst := hid hst
    by_cases he : e = 0
    rotate_left
    · rw [if_pos he] at hq
      subst hq
      simp -dsimp -implicitDefEqProofs [-getElem?_pos, -List.map_append, -List.map_set, List.getElem?_cons_zero, List.getElem?_cons_succ, e6, e22, e23, hci, hk', hx, h52]
      refine call_CC (cn.out) ?_
      simp -dsimp -implicitDefEqProofs [-getElem?_pos, -List.map_append, -List.map_set, List.getElem?_cons_zero, List.getElem?_cons_succ, e6, e22, e23, h52, he]
      exact ends_li outL rfl
    rw [if_neg (by simp [he])] at hq
    subst he
    replace hq := hid hq
    have dd1 : decide (100000000 < 1) = false := by decide
    have dd2 : out.length ≤ 100000000 := by omega
    have dd4 : out.map (ansC true) ++ [[Int' a.e, Int' a.pos, .lst true 1 (I a.d)]] = (out ++ [a]).map (ansC true) := by simp
    replace hln := hid hln
    rcases hst.out with ⟨hs0, hs1⟩ | ⟨y, hs1, y1, yn, hy⟩
    · subst hs0 hs1
      simp -dsimp -implicitDefEqProofs [-getElem?_pos, -List.map_append, -List.map_set, List.getElem?_cons_zero, List.getElem?_cons_succ, e6, e22, e23, hci, hk', hx, h52]
      refine call_CC (cn.out) ?_
      simp -dsimp -implicitDefEqProofs [-getElem?_pos, -List.map_append, -List.map_set, List.getElem?_cons_zero, List.getElem?_cons_succ, e6, e22, e23, hci, hw, h52, hsv, dd1]
      exact ⟨M, [a], true, by repeat (first | exact upd_same _ _ _ | rw [upd_ne _ _ (by omega)]), hq.out, .inr ⟨_, rfl, by omega, by omega, by repeat (first | exact upd_same _ _ _ | rw [upd_ne _ _ (by omega)])⟩, by have := hln.out; simp at this ⊢; omega⟩
    · subst hs1
      have y52 : ¬ y = 52 := by omega
      have y53 : ¬ 52 = y := by omega
      simp -dsimp -implicitDefEqProofs [-getElem?_pos, -List.map_append, -List.map_set, List.getElem?_cons_zero, List.getElem?_cons_succ, e6, e22, e23, hci, hk', hx, h52, hy, y52, y53, far yn]
      refine call_CC (cn.out) ?_
      simp -dsimp -implicitDefEqProofs [-getElem?_pos, -List.map_append, -List.map_set, List.getElem?_cons_zero, List.getElem?_cons_succ, e6, e22, e23, hci, hw, h52, hsv, hy, dd1, dd2, y52, y53, far yn]
      exact ⟨M, out ++ [a], true, by repeat (first | exact upd_same _ _ _ | rw [upd_ne _ _ (by omega)]), hq.out, .inr ⟨_, by rw [List.length_append]; rfl, by omega, by omega, by rw [← dd4]; repeat (first | exact upd_same _ _ _ | rw [upd_ne _ _ (by omega)])⟩, by have := hln.out; simp at this ⊢; omega⟩
  · rintro t h n hci hs ⟨⟨H, out, fr, h52, hq, hst, hln⟩, d, rfl⟩
    rw [List.drop_length, toldFrom] at hq
    subst hq
    obtain ⟨sv, hsv⟩ : ∃ sv, t 7 = sv := ⟨_, rfl⟩
    rw [hsv] at hst
    have e6 := hs 6 rfl
    have e22 := hs 22 rfl
    have e23 := hs 23 rfl
    clear hs
    simp -dsimp -implicitDefEqProofs at e6 e22 e23
    replace hst := hid hst
    simp -dsimp -implicitDefEqProofs [-getElem?_pos, -List.map_append, -List.map_set, List.getElem?_cons_zero, List.getElem?_cons_succ, e6, e22, e23, hci, hsv]
    rcases hst.out with ⟨hs0, hs1⟩ | ⟨y, hs1, y1, yn, hy⟩
    · subst hs0 hs1
      exact ends_li outL rfl
    · subst hs1
      exact ends_li (.answers (e := ⟨66, 3, out.map (ansC true)⟩) hy ⟨rfl, rfl⟩ rfl (.nil _)) rfl
theorem told_eq {w : S.World} {q : List S.Answer × Int} (h : toldWorld w = q) : C Tryz.prog 25 [.agg (worldC false w)] (toldR q) [] := h ▸ story_Told w
theorem law_told1 (k n : Int) : C Tryz.prog 92 [Int' k, Int' n] (.agg (hapC true ⟨k, 0, n, S.Cmd.zero⟩)) [] := by
  refine C_inline [] Tryz.func92 (fun _ _ => by kernel_rfl) rfl (by kernel_rfl) (by rfl) (by decide) (by rfl) (by rfl) (by rfl) ?_
  simp -dsimp -implicitDefEqProofs [-getElem?_pos, -List.map_append, -List.map_set, List.getElem?_cons_zero, List.getElem?_cons_succ]
  exact ends_agg outL
abbrev toldL : List S.Hap := [⟨1, 1, 0, putC 5⟩, ⟨1, 2, 0, putC 6⟩, ⟨3, 0, 1, S.Cmd.zero⟩, ⟨3, 0, 0, S.Cmd.zero⟩]
theorem law_told : C Tryz.prog 26 [] (Bool' true) [] := by
  obtain ⟨⟨w, said, e⟩, hq⟩ : ∃ q, S.runWorld S.World.new toldL = q := ⟨_, rfl⟩
  have f1 : (S.runWorld S.World.new toldL).2.2 = 0 := by decide +kernel
  have f2 : S.doneWorld (S.runWorld S.World.new toldL).1 = ([⟨2, 1, putC 6⟩, ⟨1, 1, putC 5⟩], 0) := by decide +kernel
  have f3 : toldWorld (S.runWorld S.World.new toldL).1 = ([⟨0, 0, []⟩, ⟨0, 1, []⟩], 0) := by decide +kernel
  rw [hq] at f1 f2 f3
  simp only at f1 f2 f3
  subst f1
  have cr := hid (runW_eq hq)
  have cp := hid (law_puts 5)
  have cp6 := hid (law_puts 6)
  have c1 := hid (law_told1 3 1)
  have c0 := hid (law_told1 3 0)
  have cd := hid (doneW_eq f2)
  have ct := hid (told_eq f3)
  clear hq f2 f3
  refine C_inline [] Tryz.func26 (fun _ _ => by kernel_rfl) rfl (by kernel_rfl) (by rfl) (by decide) (by rfl) (by rfl) (by rfl) ?_
  simp -dsimp -implicitDefEqProofs [-getElem?_pos, -List.map_append, -List.map_set, List.getElem?_cons_zero, List.getElem?_cons_succ]
  refine call_CC (world_New) ?_
  simp -dsimp -implicitDefEqProofs [-getElem?_pos, -List.map_append, -List.map_set, List.getElem?_cons_zero, List.getElem?_cons_succ]
  refine call_CC (cp.out) ?_
  simp -dsimp -implicitDefEqProofs [-getElem?_pos, -List.map_append, -List.map_set, List.getElem?_cons_zero, List.getElem?_cons_succ]
  refine call_CC (cp6.out) ?_
  simp -dsimp -implicitDefEqProofs [-getElem?_pos, -List.map_append, -List.map_set, List.getElem?_cons_zero, List.getElem?_cons_succ]
  refine call_CC (c1.out) ?_
  simp -dsimp -implicitDefEqProofs [-getElem?_pos, -List.map_append, -List.map_set, List.getElem?_cons_zero, List.getElem?_cons_succ]
  refine call_CC (c0.out) ?_
  simp -dsimp -implicitDefEqProofs [-getElem?_pos, -List.map_append, -List.map_set, List.getElem?_cons_zero, List.getElem?_cons_succ]
  refine call_CC (cr.out) ?_
  simp -dsimp -implicitDefEqProofs [-getElem?_pos, -List.map_append, -List.map_set, List.getElem?_cons_zero, List.getElem?_cons_succ]
  refine call_CC (cd.out) ?_
  simp -dsimp -implicitDefEqProofs [-getElem?_pos, -List.map_append, -List.map_set, List.getElem?_cons_zero, List.getElem?_cons_succ]
  refine call_CC (ct.out) ?_
  simp -dsimp -implicitDefEqProofs [-getElem?_pos, -List.map_append, -List.map_set, List.getElem?_cons_zero, List.getElem?_cons_succ]
  exact ends_bool rfl
def PlayAt (h : Heap) (i : Nat) (l : List S.Hap) (W : S.World) : Prop := ∃ (w : S.World) (L : List S.Rec), h i = some ⟨37, 10, [worldC true w]⟩ ∧ Once w L ∧ playFrom w l = W
theorem ends_wb {h : Heap} {n : Nat} {cells target : List AV} {b b' : Bool} (ho : OutL h cells target) (he : b = b') : Ends [] (.tup [.agg target, Bool' b']) [] h n (.tup [.agg cells, Bool' b]) := by
  subst he
  obtain ⟨c1, o1, s1⟩ := ho
  have e1 : outAgg h [] (.agg cells) = some (.agg c1) := by
    show (cells.mapM (outLeaf h [])).map AV.agg = _
    rw [o1]; rfl
  refine ⟨⟨.tup [.agg c1, Bool' b], ?_, .tup (.cons (.agg s1) (.cons (.refl _) (.nil _)))⟩, rfl⟩
  show (List.mapM (outAgg h []) [.agg cells, Bool' b]).map AV.tup = _
  rw [List.mapM_cons, e1]
  rfl
theorem law_played (l : List S.Hap) (f : FuncId) (hf : ∀ (w : S.World) (L : List S.Rec), Once w L → C Tryz.prog f [.agg (worldC false w)] (Bool' true) []) :
    C Tryz.prog 42 [.lst false 8 (l.map (hapC false)), .fn f []] (.tup [.agg (worldC true (playFrom S.World.new (l.take 90))), Bool' true]) [] := by
  obtain ⟨W, hW⟩ : ∃ W, playFrom S.World.new (l.take 90) = W := ⟨_, rfl⟩
  rw [hW]
  obtain ⟨m, hmE⟩ : ∃ m : Nat, min 90 l.length = m := ⟨_, rfl⟩
  have hm : (if (90 : Int) < l.length then (90 : Int) else l.length) = (m : Int) := by split <;> omega
  have hml : m ≤ l.length := by omega
  have hm20 := hid (show m ≤ 90 by omega)
  have hmm : min m l.length = m := by omega
  have et : l.take 90 = l.take m := by
    rw [← hmE]
    rcases Nat.le_total 90 l.length with g | g
    · rw [Nat.min_eq_left g]
    · rw [Nat.min_eq_right g, List.take_of_length_le g, List.take_of_length_le (Nat.le_refl _)]
  rw [et] at hW
  replace hW := hid hW
  replace hf := hid hf
  clear hmE et
  refine C_inline [] Tryz.func42 (fun _ _ => by kernel_rfl) rfl (by kernel_rfl) (by rfl) (by decide) (by rfl) (by rfl) (by rfl) ?_
  simp -dsimp -implicitDefEqProofs [-getElem?_pos, -List.map_append, -List.map_set, List.getElem?_cons_zero, List.getElem?_cons_succ]
  refine call_CC (world_New) ?_
  simp -dsimp -implicitDefEqProofs [-getElem?_pos, -List.map_append, -List.map_set, List.getElem?_cons_zero, List.getElem?_cons_succ, hm, hml, hmm]
  refine loop_count 18 m (fun k h n t => PlayAt h 12 ((l.take m).drop k) W ∧ h 0 = some ⟨37, 10, [[.nl, .nl, Int' 0, Int' 0, .nl, .nl, .nl, Bool' false, .nl, .nl]]⟩ ∧ ∃ d, n = d + 48) _ rfl (by rfl) ⟨⟨S.World.new, [], rfl, once_new, hW.out⟩, rfl, ⟨0, rfl⟩⟩ ?_ ?_
  · rintro k t h n hk hci hs ⟨⟨w, L, h12, ho, hp⟩, h0, d, rfl⟩
    have hw : IntKind.i64.wrap ((k : Int) + 1) = (k : Int) + 1 := wrap_ok (by have := hm20.out; omega)
    obtain ⟨x, hx⟩ : ∃ x, l[k]? = some x := ⟨l[k]'(by omega), by simp⟩
    have hxm : (l.take m)[k]? = some x := by rw [List.getElem?_take, if_pos hk, hx]
    have hxr : ((l.map (hapC false)).take m)[k]? = some (hapC false x) := by rw [List.getElem?_take, if_pos hk, List.getElem?_map, hx]; rfl
    have hk' : decide (k < m) = true := by simp [hk]
    rw [drop_cons hxm, playFrom] at hp
    obtain ⟨⟨v, e⟩, hD⟩ : ∃ q, S.doWorld w x = q := ⟨_, rfl⟩
    have cd := hid (doW_eq hD)
    have hdo := fun g => do_once (x := x) ho g
    rw [hD] at hp hdo
    simp only at hp hdo
    clear hD
    have e1 := hs 1 rfl
    have e4 := hs 4 rfl
    have e6 := hs 6 rfl
    have e16 := hs 16 rfl
    have e17 := hs 17 rfl
    clear hs
    simp -dsimp -implicitDefEqProofs at e1 e4 e6 e16 e17
    replace hk := hid hk
    by_cases he : e = 0
    · subst he
      rw [if_pos rfl] at hp
      obtain ⟨L2, ho2, -, -⟩ := hdo rfl
      have cf := hid (hf.out v L2 ho2)
      replace ho2 := hid ho2
      clear hdo ho
      simp -dsimp -implicitDefEqProofs [-getElem?_pos, -List.map_append, -List.map_set, List.getElem?_cons_zero, List.getElem?_cons_succ, e1, e4, e6, e16, e17, hci, hk', hx, hxr, hk.out, h12, h0]
      refine call_CC (cd.out) ?_
      simp -dsimp -implicitDefEqProofs [-getElem?_pos, -List.map_append, -List.map_set, List.getElem?_cons_zero, List.getElem?_cons_succ, e1, e4, e6, e16, e17, h12, h0]
      refine call_CC (cf.out) ?_
      simp -dsimp -implicitDefEqProofs [-getElem?_pos, -List.map_append, -List.map_set, List.getElem?_cons_zero, List.getElem?_cons_succ, e1, e4, e6, e16, e17, hci, hw, h12, h0]
      exact ⟨v, L2, by repeat (first | exact upd_same _ _ _ | rw [upd_ne _ _ (by omega)]), ho2.out, hp⟩
    · rw [if_neg he] at hp
      clear hdo
      replace ho := hid ho
      simp -dsimp -implicitDefEqProofs [-getElem?_pos, -List.map_append, -List.map_set, List.getElem?_cons_zero, List.getElem?_cons_succ, e1, e4, e6, e16, e17, hci, hk', hx, hxr, hk.out, h12, h0]
      refine call_CC (cd.out) ?_
      simp -dsimp -implicitDefEqProofs [-getElem?_pos, -List.map_append, -List.map_set, List.getElem?_cons_zero, List.getElem?_cons_succ, e1, e4, e6, e16, e17, hci, hw, he, h12, h0]
      exact ⟨w, L, by repeat (first | exact h12 | rw [upd_ne _ _ (by omega)]), ho.out, hp⟩
  · rintro t h n hci hs ⟨⟨w, L, h12, ho, hp⟩, h0, d, rfl⟩
    rw [List.drop_eq_nil_of_le (by simp; omega), playFrom] at hp
    subst hp
    clear ho
    have e1 := hs 1 rfl
    have e4 := hs 4 rfl
    have e6 := hs 6 rfl
    have e16 := hs 16 rfl
    have e17 := hs 17 rfl
    clear hs
    simp -dsimp -implicitDefEqProofs at e1 e4 e6 e16 e17
    simp -dsimp -implicitDefEqProofs [-getElem?_pos, -List.map_append, -List.map_set, List.getElem?_cons_zero, List.getElem?_cons_succ, e1, e4, e6, e16, e17, hci, h12, h0]
    exact ends_wb outL rfl
end Go.Proofs.YtginfkadmjikhaaGreatDoor.E
