/- P5: Pi: world.Do. Pj: world.Run. Pk: rows of errors; law.asked. -/
import Derived.Test.YtginfkadmjikhaaGreatDoorP4
import Derived.Test.YtginfkadmjikhaaGreatDoorW2
namespace Go.Proofs.YtginfkadmjikhaaGreatDoor.E
open Go.RowKit Go.Proofs
set_option linter.unusedVariables false
set_option linter.unusedSimpArgs false
set_option maxRecDepth 100000
set_option maxHeartbeats 2000000
theorem hall_small {h : S.Hall} (e : S.checkHall h = 0) : Small h.d ∧ h.last.length ≤ 100000 ∧ ∀ x, x ∈ h.last → x.a.d.length ≤ 100000 := by
  obtain ⟨d0, l3, lk⟩ := checkHall_parts e
  exact ⟨(small_of d0).1, by omega, fun x hx => checkAnswer_len5 (checkLast_parts (lk x hx)).2.2.1⟩
theorem okW_hall {w : S.World} {l : List S.Rec} (h : OkW w l) : S.checkHall w.h = 0 := by
  cases hu : w.up with
  | true => exact replay_right (S.replay_ok (h.up hu).2).2
  | false => rw [h.down hu]; exact new_right
theorem okW_small {w : S.World} {l : List S.Rec} (h : OkW w l) : SmallW w := by
  obtain ⟨h1, h2, h3⟩ := hall_small (okW_hall h)
  have := h.room
  exact ⟨h1, h2, h3, by omega, by omega, by have := h.hand3; omega, fun x hx => small_of_check (h.hands x hx), by have := h.mail30; omega, fun m hm => mail_small (h.mails m hm)⟩
theorem happen_world {w : S.World} {x : S.Hap} {i a b n0 : Nat} {h0 : Heap} {l : List S.Rec} (hok : OkW w l) (W : WSub h0 n0 i a b w) {cells : List AV} (hs : SubL SubF cells (hapC false x)) :
    CS Tryz.prog 60 [.ptr i 10 0 0, .agg cells] h0 n0 (Happ h0 n0 i a b (S.happen w x)) :=
  CS.world (Q := fun h0 h n r => Happ h0 n0 i a b (S.happen w x) h n r) (fun h W => world_happen w x i a b n0 h W hok) (fun h' s h1 n r h2 => h2.frame s) W (.cons (.refl _) (.cons (.agg hs) (.nil _)))
theorem OutL.ownT {h : Heap} {i n : Nat} {ty : TypeId} {s : Nat} {rows rows' : List (List AV)} {cs ts : List AV} (hi : h i = some ⟨ty, s, rows⟩) (hn : n = rows.length) (hm : rows.mapM (fun (r : List AV) => r.mapM (leafP h [] 2)) = some rows') (hf : (rows.all fun r => r.all freshCell) = true) (g : OutL h cs ts) : OutL h (.own i 0 n :: cs) (.lst true s rows' :: ts) :=
  .cons (own_outR hi hn hm hf) (.lst (fun h => h) (SubR.refl _)) g
theorem out_world {h : Heap} {a b : Nat} {w : S.World} (ha : h a = some ⟨79, 8, w.hand.map (handC true)⟩) (hb : h b = some ⟨107, 11, w.mail.map (mailC true)⟩) : OutL h (ownW true w a b) (worldC true w) :=
  .lst (fun h => h) (.lst (fun h => h) (.at (.at (.lst (fun h => h) (.lst (fun h => h) (.lst (fun h => h) (.at (.ownT ha (by simp) (mapM_map (f := handC true) (g := fun (r : List AV) => r.mapM (leafP h [] 2)) (e := handC false) (fun _ => rfl) _) (by simp [freshCell]) (.ownT hb (by simp) (mapM_map (f := mailC true) (g := fun (r : List AV) => r.mapM (leafP h [] 2)) (e := mailC false) (fun _ => rfl) _) (by simp [freshCell]) (.nil _))))))))))
abbrev doWR (q : S.World × Int) : AV := .tup [.agg (worldC true q.1), Int' q.2]
theorem check_eq {w : S.World} {e : Int} (h : S.checkWorld w = e) : C Tryz.prog 18 [.agg (worldC false w)] (Int' e) [] := h ▸ world_Check w
theorem world_Do (w : S.World) (x : S.Hap) : C Tryz.prog 15 [.agg (worldC false w), .agg (hapC false x)] (doWR (S.doWorld w x)) [] := by
  obtain ⟨r, hr⟩ : ∃ r, S.doWorld w x = r := ⟨_, rfl⟩
  rw [hr]
  unfold S.doWorld at hr
  by_cases hc : S.checkWorld w = 0
  rotate_left
  · rw [if_pos hc] at hr
    have c1 := hid (world_Check w)
    subst hr
    generalize S.checkWorld w = e at *
    refine C_inline [] Tryz.func15 (fun _ _ => by kernel_rfl) rfl (by kernel_rfl) (by rfl) (by decide) (by rfl) (by rfl) (by rfl) ?_
    simp -dsimp -implicitDefEqProofs [-getElem?_pos, -List.map_append, -List.map_set, List.getElem?_cons_zero, List.getElem?_cons_succ]
    refine call_CC (c1.out) ?_
    simp -dsimp -implicitDefEqProofs [-getElem?_pos, -List.map_append, -List.map_set, List.getElem?_cons_zero, List.getElem?_cons_succ, hc]
    exact ends_ag outL rfl
  rw [if_neg (by simp [hc])] at hr
  have c1 := hid (check_eq hc)
  obtain ⟨l, hok⟩ := check_okW hc
  have c2 := hid (world_Copy w (okW_small hok))
  replace hok := hid hok
  obtain ⟨q, hq⟩ : ∃ q, S.happen w x = q := ⟨_, rfl⟩
  rw [hq] at hr
  refine C_inline [] Tryz.func15 (fun _ _ => by kernel_rfl) rfl (by kernel_rfl) (by rfl) (by decide) (by rfl) (by rfl) (by rfl) ?_
  simp -dsimp -implicitDefEqProofs [-getElem?_pos, -List.map_append, -List.map_set, List.getElem?_cons_zero, List.getElem?_cons_succ]
  refine call_CC (c1.out) ?_
  simp -dsimp -implicitDefEqProofs [-getElem?_pos, -List.map_append, -List.map_set, List.getElem?_cons_zero, List.getElem?_cons_succ]
  refine call_CC (c2.out) ?_
  simp -dsimp -implicitDefEqProofs [-getElem?_pos, -List.map_append, -List.map_set, List.getElem?_cons_zero, List.getElem?_cons_succ]
  refine call_CSx (happen_world (w := w) (x := x) (a := 40) (b := 41) hok.out ⟨⟨_, by repeat (first | exact upd_same _ _ _ | rw [upd_ne _ _ (by omega)]), SubL.reflF _⟩, ⟨_, by repeat (first | exact upd_same _ _ _ | rw [upd_ne _ _ (by omega)]), SubRow.refl _⟩, ⟨_, by repeat (first | exact upd_same _ _ _ | rw [upd_ne _ _ (by omega)]), SubRow.refl _⟩, by omega, by omega, by omega, by omega, by omega, by omega⟩ (SubL.reflF _)) ?_
  rw [hq]
  rintro h n z ⟨rfl, hn, hh, hw⟩
  have h8 := hh 8 (by omega) (by omega) (by omega) (by omega)
  have h4 := hh 4 (by omega) (by omega) (by omega) (by omega)
  simp -dsimp -implicitDefEqProofs at h8 h4
  by_cases he : q.2 = 0
  rotate_left
  · rw [if_pos he] at hr
    subst hr
    simp -dsimp -implicitDefEqProofs [-getElem?_pos, -List.map_append, -List.map_set, List.getElem?_cons_zero, List.getElem?_cons_succ, he, h8]
    exact ends_ag outL rfl
  rw [if_neg (by simp [he])] at hr
  obtain ⟨⟨b', W, hb'⟩, -, -⟩ := hw he
  obtain ⟨hi, ha, hb, li, la, lb, ia, ib, ab⟩ := W
  subst hr
  simp -dsimp -implicitDefEqProofs [-getElem?_pos, -List.map_append, -List.map_set, List.getElem?_cons_zero, List.getElem?_cons_succ, he, h8, hi, ha, hb]
  exact ends_ag (out_world (by rw [upd_ne _ _ (by omega)]; exact ha) (by rw [upd_ne _ _ (by omega)]; exact hb)) rfl
theorem doW_eq {w : S.World} {x : S.Hap} {q : S.World × Int} (h : S.doWorld w x = q) : C Tryz.prog 15 [.agg (worldC false w), .agg (hapC false x)] (doWR q) [] := h ▸ world_Do w x
end Go.Proofs.YtginfkadmjikhaaGreatDoor.E
namespace Go.Proofs.YtginfkadmjikhaaGreatDoor.E
open Go.RowKit Go.Proofs
set_option linter.unusedVariables false
set_option linter.unusedSimpArgs false
set_option maxRecDepth 100000
set_option maxHeartbeats 2000000
abbrev runWR (q : S.World × List Int × Int) : AV := .tup [.agg (worldC true q.1), .lst true 1 (I q.2.1), Int' q.2.2]
def RunW (h : Heap) (n : Nat) (v : AV) (l : List S.Hap) (q : S.World × List Int) : Prop :=
  ∃ (w : S.World) (said : List Int) (a b : Nat), h 0 = some ⟨37, 10, [ownW true w a b]⟩ ∧ h a = some ⟨79, 8, w.hand.map (handC true)⟩ ∧ h b = some ⟨107, 11, w.mail.map (mailC true)⟩ ∧ 4 < a ∧ 4 < b ∧ a < n ∧ b < n ∧ a ≠ b ∧
    h 4 = some ⟨37, 10, [[.nl, .nl, Int' 0, Int' 0, .nl, .nl, .nl, Bool' false, .nl, .nl]]⟩ ∧ S.checkWorld w = 0 ∧
    ((said = [] ∧ v = .nl) ∨ ∃ y, v = .own y 0 said.length ∧ 4 < y ∧ y < n ∧ y ≠ a ∧ y ≠ b ∧ h y = some ⟨42, 1, I said⟩) ∧ said.length + l.length ≤ 120 ∧ (S.script w l).1 = q.1 ∧ said ++ (S.script w l).2 = q.2
theorem view_world {h : Heap} {fr : Bool} {a b : Nat} {w : S.World} (ha : h a = some ⟨79, 8, w.hand.map (handC fr)⟩) (hb : h b = some ⟨107, 11, w.mail.map (mailC fr)⟩) : [AV.agg (ownW fr w a b)].mapM (viewV h) = some [.agg (worldC false w)] := by
  have e1 : leafV h (.own a 0 w.hand.length) = some (.lst false 8 (w.hand.map (handC false))) := by
    show (match h a with | some e => if 0 + w.hand.length ≤ e.rows.length then (((e.rows.drop 0).take w.hand.length).mapM fun (r : List AV) => r.mapM (leafP h [] 2)).map (AV.lst false e.s ·) else none | none => none) = _
    rw [ha]
    simp only [List.drop_zero]
    rw [if_pos (by simp), take_map_len, mapM_map (f := handC fr) (g := fun (r : List AV) => r.mapM (leafP h [] 2)) (e := handC false) (fun _ => rfl)]
    rfl
  have e2 : leafV h (.own b 0 w.mail.length) = some (.lst false 11 (w.mail.map (mailC false))) := by
    show (match h b with | some e => if 0 + w.mail.length ≤ e.rows.length then (((e.rows.drop 0).take w.mail.length).mapM fun (r : List AV) => r.mapM (leafP h [] 2)).map (AV.lst false e.s ·) else none | none => none) = _
    rw [hb]
    simp only [List.drop_zero]
    rw [if_pos (by simp), take_map_len, mapM_map (f := mailC fr) (g := fun (r : List AV) => r.mapM (leafP h [] 2)) (e := mailC false) (fun _ => rfl)]
    rfl
  have e3 : viewV h (.agg (ownW fr w a b)) = some (.agg (worldC false w)) := by
    show ((_ : List AV).mapM (leafV h)).map AV.agg = _
    simp only [List.mapM_cons, List.mapM_nil, e1, e2]
    rfl
  rw [List.mapM_cons, e3]
  rfl
theorem new_world (w : S.World) : newNews [⟨79, 8, w.hand.map (handC true)⟩, ⟨107, 11, w.mail.map (mailC true)⟩] = true := by simp [newNews, newLeaf]
theorem script_cons (w : S.World) (x : S.Hap) (l : List S.Hap) : S.script w (x :: l) = ((S.script (if (S.happen w x).2 = 0 then (S.happen w x).1 else w) l).1, (S.happen w x).2 :: (S.script (if (S.happen w x).2 = 0 then (S.happen w x).1 else w) l).2) := rfl
theorem ends_wie {h : Heap} {n : Nat} {cells target : List AV} {c t : AV} {e e' : Int} (ho : OutL h cells target) (hc : OutL h [c] [t]) (he : e = e') : Ends [] (.tup [.agg target, t, Int' e']) [] h n (.tup [.agg cells, c, Int' e]) := by
  subst he
  obtain ⟨c1, o1, s1⟩ := ho
  obtain ⟨c2, o2, s2⟩ := hc
  obtain ⟨z, rest, hz, hr, rfl⟩ := mapM_inv o2
  simp at hr
  subst hr
  have e2 : outAgg h [] c = some z := by
    unfold outAgg
    split
    · simp [outLeaf] at hz
    · exact hz
  have e1 : outAgg h [] (.agg cells) = some (.agg c1) := by
    show (cells.mapM (outLeaf h [])).map AV.agg = _
    rw [o1]; rfl
  refine ⟨⟨.tup [.agg c1, z, Int' e], ?_, .tup (.cons (.agg s1) (.cons (.leaf (s2.2 0 z t rfl rfl)) (.cons (.refl _) (.nil _))))⟩, rfl⟩
  show (List.mapM (outAgg h []) [.agg cells, c, Int' e]).map AV.tup = _
  rw [List.mapM_cons, e1, List.mapM_cons, e2]
  rfl
theorem world_Run (w : S.World) (l : List S.Hap) : C Tryz.prog 33 [.agg (worldC false w), .lst false 8 (l.map (hapC false))] (runWR (S.runWorld w l)) [] := by
  obtain ⟨r, hr⟩ : ∃ r, S.runWorld w l = r := ⟨_, rfl⟩
  rw [hr]
  unfold S.runWorld at hr
  by_cases hc : S.checkWorld w = 0
  rotate_left
  · rw [if_pos hc] at hr
    have c1 := hid (world_Check w)
    subst hr
    generalize S.checkWorld w = e at *
    refine C_inline [] Tryz.func33 (fun _ _ => by kernel_rfl) rfl (by kernel_rfl) (by rfl) (by decide) (by rfl) (by rfl) (by rfl) ?_
    simp -dsimp -implicitDefEqProofs [-getElem?_pos, -List.map_append, -List.map_set, List.getElem?_cons_zero, List.getElem?_cons_succ]
    refine call_CC (c1.out) ?_
    simp -dsimp -implicitDefEqProofs [-getElem?_pos, -List.map_append, -List.map_set, List.getElem?_cons_zero, List.getElem?_cons_succ, hc]
    exact ends_wie outL outL rfl
  rw [if_neg (by simp [hc])] at hr
  have c1 := hid (check_eq hc)
  by_cases hl : 120 < l.length
  · rw [if_pos hl] at hr
    have hl' : decide ((120 : Int) < (l.length : Int)) = true := by simp; omega
    have hl'' : decide (120 < l.length) = true := by simp; omega
    subst hr
    refine C_inline [] Tryz.func33 (fun _ _ => by kernel_rfl) rfl (by kernel_rfl) (by rfl) (by decide) (by rfl) (by rfl) (by rfl) ?_
    simp -dsimp -implicitDefEqProofs [-getElem?_pos, -List.map_append, -List.map_set, List.getElem?_cons_zero, List.getElem?_cons_succ]
    refine call_CC (c1.out) ?_
    simp -dsimp -implicitDefEqProofs [-getElem?_pos, -List.map_append, -List.map_set, List.getElem?_cons_zero, List.getElem?_cons_succ, hl', hl'']
    exact ends_wie outL outL rfl
  rw [if_neg hl] at hr
  have hl' : decide ((120 : Int) < (l.length : Int)) = false := by simp; omega
  have hl'' : decide (120 < l.length) = false := by simp; omega
  obtain ⟨L, hok⟩ := check_okW hc
  have c2 := hid (world_Copy w (okW_small hok))
  obtain ⟨q, hq⟩ : ∃ q, S.script w l = q := ⟨_, rfl⟩
  rw [hq] at hr
  subst hr
  have hq' := hid hq
  have hc' := hid hc
  clear hq hc hok
  refine C_inline [] Tryz.func33 (fun _ _ => by kernel_rfl) rfl (by kernel_rfl) (by rfl) (by decide) (by rfl) (by rfl) (by rfl) ?_
  simp -dsimp -implicitDefEqProofs [-getElem?_pos, -List.map_append, -List.map_set, List.getElem?_cons_zero, List.getElem?_cons_succ]
  refine call_CC (c1.out) ?_
  simp -dsimp -implicitDefEqProofs [-getElem?_pos, -List.map_append, -List.map_set, List.getElem?_cons_zero, List.getElem?_cons_succ, hl', hl'']
  refine call_CC (c2.out) ?_
  simp -dsimp -implicitDefEqProofs [-getElem?_pos, -List.map_append, -List.map_set, List.getElem?_cons_zero, List.getElem?_cons_succ]
  refine loop_count 27 l.length (fun k h n t => RunW h n (t 8) (l.drop k) q ∧ ∃ d, n = d + 76) _ rfl (by rfl) ⟨⟨w, [], 52, 53, rfl, rfl, rfl, by omega, by omega, by show 52 < 76; omega, by show 53 < 76; omega, by omega, rfl, hc'.out, .inl ⟨rfl, rfl⟩, by simp; omega, by rw [List.drop_zero, hq'.out], by rw [List.drop_zero, hq'.out]; rfl⟩, ⟨0, rfl⟩⟩ ?_ ?_
  · rintro k t h n hk hci hs ⟨⟨w1, said, a, b, h0, ha, hb, a4, b4, an, bn, ab, h4, hcw, hsd, hle, hq1, hq2⟩, d, rfl⟩
    have hw : IntKind.i64.wrap ((k : Int) + 1) = (k : Int) + 1 := wrap_ok (by omega)
    obtain ⟨x, hx⟩ : ∃ x, l[k]? = some x := ⟨l[k], by simp⟩
    have hk' : decide (k < l.length) = true := by simp [hk]
    rw [drop_cons hx] at hq1 hq2 hle
    rw [script_cons] at hq1 hq2
    obtain ⟨⟨v, e⟩, hv⟩ : ∃ p, S.happen w1 x = p := ⟨_, rfl⟩
    rw [hv] at hq1 hq2
    obtain ⟨L1, hok1⟩ := check_okW hcw
    have cc := hid (world_Copy w1 (okW_small hok1))
    have hokv : e = 0 → S.checkWorld v = 0 := fun g => by
      subst g
      obtain ⟨L2, h2⟩ := okW_happen hok1 hv
      exact okW_check h2
    replace hok1 := hid hok1
    replace hokv := hid hokv
    simp only [List.length_cons] at hle
    have e8 : t 8 = t 8 := rfl
    obtain ⟨sv, hsv⟩ : ∃ sv, t 8 = sv := ⟨_, rfl⟩
    rw [hsv] at hsd
    clear c1 c2 hc' e8
    have e2 := hs 2 rfl
    have e4 := hs 4 rfl
    have e25 := hs 25 rfl
    have e26 := hs 26 rfl
    clear hs
    simp -dsimp -implicitDefEqProofs at e2 e4 e25 e26
    replace hk := hid hk
    replace hq1 := hid hq1
    replace hq2 := hid hq2
    replace hsd := hid hsd
    replace hle := hid hle
    simp -dsimp -implicitDefEqProofs [-getElem?_pos, -List.map_append, -List.map_set, List.getElem?_cons_zero, List.getElem?_cons_succ, e2, e4, e25, e26, hci, hk', hx, h0, ha, hb, h4, hsv, far an, far bn]
    refine call_CC (cc.out) ?_ (view_world (fr := true) (by rw [upd_ne _ _ (by omega), upd_ne _ _ (by omega)]; exact ha) (by rw [upd_ne _ _ (by omega), upd_ne _ _ (by omega)]; exact hb)) (.inl ⟨rfl, new_world _⟩)
    simp -dsimp -implicitDefEqProofs [-getElem?_pos, -List.map_append, -List.map_set, List.getElem?_cons_zero, List.getElem?_cons_succ, e2, e4, e25, e26, hci, h0, ha, hb, h4, hsv, far an, far bn]
    refine call_CSx (happen_world (w := w1) (x := x) (a := d + 76 + 4 + 16 + 4) (b := d + 76 + 4 + 16 + 4 + 1) hok1.out ⟨⟨_, by repeat (first | exact upd_same _ _ _ | rw [upd_ne _ _ (by omega)]), SubL.reflF _⟩, ⟨_, by repeat (first | exact upd_same _ _ _ | rw [upd_ne _ _ (by omega)]), SubRow.refl _⟩, ⟨_, by repeat (first | exact upd_same _ _ _ | rw [upd_ne _ _ (by omega)]), SubRow.refl _⟩, by omega, by omega, by omega, by omega, by omega, by omega⟩ (SubL.reflF _)) ?_
    rw [hv]
    rintro h' n' z ⟨rfl, hn, hh, hw2⟩
    obtain ⟨n1, rfl⟩ : ∃ n1, n' = n1 + 1 := ⟨n' - 1, by omega⟩
    have g0 : h' 0 = some ⟨37, 10, [ownW true w1 a b]⟩ := (hh 0 (by omega) (by omega) (by omega) (by omega)).trans (by repeat (first | exact h0 | rw [upd_ne _ _ (by omega)]))
    have g4 : h' 4 = some ⟨37, 10, [[.nl, .nl, Int' 0, Int' 0, .nl, .nl, .nl, Bool' false, .nl, .nl]]⟩ := (hh 4 (by omega) (by omega) (by omega) (by omega)).trans (by repeat (first | exact h4 | rw [upd_ne _ _ (by omega)]))
    have ga : h' a = some ⟨79, 8, w1.hand.map (handC true)⟩ := (hh a (by omega) (by omega) (by omega) (by omega)).trans (by repeat (first | exact ha | rw [upd_ne _ _ (by omega)]))
    have gb : h' b = some ⟨107, 11, w1.mail.map (mailC true)⟩ := (hh b (by omega) (by omega) (by omega) (by omega)).trans (by repeat (first | exact hb | rw [upd_ne _ _ (by omega)]))
    have gy : ∀ y, y < d + 76 → 4 < y → h' y = h y := fun y y1 y2 => (hh y (by omega) (by omega) (by omega) (by omega)).trans (by repeat (first | rfl | rw [upd_ne _ _ (by omega)]))
    clear hh cc h0 h4 ha hb
    have a1 : a < n1 + 1 := by omega
    have b1 : b < n1 + 1 := by omega
    have i1 : d + 76 + 4 + 16 + 8 < n1 + 1 := by omega
    have dd1 : decide (100000000 < 1) = false := by decide
    have dd2 : said.length ≤ 100000000 := by have := hle.out; omega
    have dd3 : (I said).take said.length = I said := List.take_of_length_le (by simp)
    have dd4 : I said ++ [[.at (.int .i64 e)]] = I (said ++ [e]) := by simp [I]
    by_cases he : e = 0
    · subst he
      have hcv := hokv.out rfl
      have hqa := hq1.out
      have hqb := hq2.out
      simp only [if_true] at hqa hqb
      replace hqa := hid hqa
      replace hqb := hid hqb
      obtain ⟨⟨b2, W2, hb2⟩, -, -⟩ := hw2 rfl
      obtain ⟨vi, va, vb, wi, wa, wb, wia, wib, wab⟩ := W2
      simp only at vi va vb
      rcases hsd.out with ⟨hs0, hs1⟩ | ⟨y, hs1, y4, yn, ya, yb, hy⟩
      · subst hs0 hs1
        clear hsd
        simp -dsimp -implicitDefEqProofs [-getElem?_pos, -List.map_append, -List.map_set, List.getElem?_cons_zero, List.getElem?_cons_succ, e2, e4, e25, e26, hci, hw, g0, g4, hsv, vi, va, vb, dd1, far i1]
        exact ⟨⟨v, [0], d + 76 + 4 + 16 + 4, b2, by repeat (first | exact upd_same _ _ _ | rw [upd_ne _ _ (by omega)]), by repeat (first | exact va | rw [upd_ne _ _ (by omega)]), by repeat (first | exact vb | rw [upd_ne _ _ (by omega)]), by omega, by omega, by omega, by omega, wab, by repeat (first | exact g4 | rw [upd_ne _ _ (by omega)]), hcv, .inr ⟨_, rfl, by omega, by omega, by omega, by omega, by repeat (first | exact upd_same _ _ _ | rw [upd_ne _ _ (by omega)])⟩, by have := hle.out; simp at this ⊢; omega, hqa.out, hqb.out⟩, ⟨n1 - 31, by omega⟩⟩
      · subst hs1
        have hy' := (gy y yn y4).trans hy
        have y1 : y < n1 + 1 := by omega
        have y0 : ¬ y = 0 := by omega
        have yi : ¬ y = d + 76 + 4 + 16 + 8 := by omega
        clear hsd hy
        simp -dsimp -implicitDefEqProofs [-getElem?_pos, -List.map_append, -List.map_set, List.getElem?_cons_zero, List.getElem?_cons_succ, e2, e4, e25, e26, hci, hw, g0, g4, hsv, vi, va, vb, hy', dd1, dd2, dd3, y0, yi, far i1, far y1]
        exact ⟨⟨v, said ++ [0], d + 76 + 4 + 16 + 4, b2, by repeat (first | exact upd_same _ _ _ | rw [upd_ne _ _ (by omega)]), by repeat (first | exact va | rw [upd_ne _ _ (by omega)]), by repeat (first | exact vb | rw [upd_ne _ _ (by omega)]), by omega, by omega, by omega, by omega, wab, by repeat (first | exact g4 | rw [upd_ne _ _ (by omega)]), hcv, .inr ⟨_, by rw [List.length_append]; rfl, by omega, by omega, by omega, by omega, by rw [← dd4]; exact upd_same _ _ _⟩, by have := hle.out; simp at this ⊢; omega, hqa.out, by rw [List.append_assoc]; exact hqb.out⟩, ⟨n1 - 31, by omega⟩⟩
    · have hqa := hq1.out
      have hqb := hq2.out
      simp only [if_neg he] at hqa hqb
      replace hqa := hid hqa
      replace hqb := hid hqb
      clear hw2
      rcases hsd.out with ⟨hs0, hs1⟩ | ⟨y, hs1, y4, yn, ya, yb, hy⟩
      · subst hs0 hs1
        clear hsd
        simp -dsimp -implicitDefEqProofs [-getElem?_pos, -List.map_append, -List.map_set, List.getElem?_cons_zero, List.getElem?_cons_succ, e2, e4, e25, e26, hci, hw, g0, g4, hsv, he, dd1, far i1]
        exact ⟨⟨w1, [e], a, b, by repeat (first | exact g0 | rw [upd_ne _ _ (by omega)]), by repeat (first | exact ga | rw [upd_ne _ _ (by omega)]), by repeat (first | exact gb | rw [upd_ne _ _ (by omega)]), a4, b4, by omega, by omega, ab, by repeat (first | exact g4 | rw [upd_ne _ _ (by omega)]), hcw, .inr ⟨_, rfl, by omega, by omega, by omega, by omega, upd_same _ _ _⟩, by have := hle.out; simp at this ⊢; omega, hqa.out, hqb.out⟩, ⟨n1 - 39, by omega⟩⟩
      · subst hs1
        have hy' := (gy y yn y4).trans hy
        have y1 : y < n1 + 1 := by omega
        have y0 : ¬ y = 0 := by omega
        have yi : ¬ y = d + 76 + 4 + 16 + 8 := by omega
        clear hsd hy
        simp -dsimp -implicitDefEqProofs [-getElem?_pos, -List.map_append, -List.map_set, List.getElem?_cons_zero, List.getElem?_cons_succ, e2, e4, e25, e26, hci, hw, g0, g4, hsv, hy', he, dd1, dd2, dd3, y0, yi, far i1, far y1]
        exact ⟨⟨w1, said ++ [e], a, b, by repeat (first | exact g0 | rw [upd_ne _ _ (by omega)]), by repeat (first | exact ga | rw [upd_ne _ _ (by omega)]), by repeat (first | exact gb | rw [upd_ne _ _ (by omega)]), a4, b4, by omega, by omega, ab, by repeat (first | exact g4 | rw [upd_ne _ _ (by omega)]), hcw, .inr ⟨_, by rw [List.length_append]; rfl, by omega, by omega, by omega, by omega, by rw [← dd4]; exact upd_same _ _ _⟩, by have := hle.out; simp at this ⊢; omega, hqa.out, by rw [List.append_assoc]; exact hqb.out⟩, ⟨n1 - 39, by omega⟩⟩
  · rintro t h n hci hs ⟨⟨w1, said, a, b, h0, ha, hb, a4, b4, an, bn, ab, h4, hcw, hsd, hle, hq1, hq2⟩, d, rfl⟩
    rw [List.drop_length] at hq1 hq2
    simp only [S.script, List.append_nil] at hq1 hq2
    obtain ⟨qw, qs⟩ := q
    simp only at hq1 hq2
    subst hq1 hq2
    obtain ⟨sv, hsv⟩ : ∃ sv, t 8 = sv := ⟨_, rfl⟩
    rw [hsv] at hsd
    clear c1 c2
    have e2 := hs 2 rfl
    have e4 := hs 4 rfl
    have e25 := hs 25 rfl
    have e26 := hs 26 rfl
    clear hs
    simp -dsimp -implicitDefEqProofs at e2 e4 e25 e26
    replace hsd := hid hsd
    simp -dsimp -implicitDefEqProofs [-getElem?_pos, -List.map_append, -List.map_set, List.getElem?_cons_zero, List.getElem?_cons_succ, e2, e4, e25, e26, hci, h0, h4, hsv, far an, far bn]
    have o1 : OutL (E.upd h 4 (some ⟨37, 10, [ownW true w1 a b]⟩)) (ownW true w1 a b) (worldC true w1) := out_world (by rw [upd_ne _ _ (by omega)]; exact ha) (by rw [upd_ne _ _ (by omega)]; exact hb)
    rcases hsd.out with ⟨hs0, hs1⟩ | ⟨y, hs1, y4, yn, ya, yb, hy⟩
    · subst hs0 hs1
      exact ends_wie o1 (.nl (.nil _)) rfl
    · subst hs1
      exact ends_wie o1 (.ints (e := ⟨42, 1, I said⟩) (by rw [upd_ne _ _ (by omega)]; exact hy) ⟨rfl, rfl⟩ rfl (.nil _)) rfl
theorem runW_eq {w : S.World} {l : List S.Hap} {q : S.World × List Int × Int} (h : S.runWorld w l = q) : C Tryz.prog 33 [.agg (worldC false w), .lst false 8 (l.map (hapC false))] (runWR q) [] := h ▸ world_Run w l
end Go.Proofs.YtginfkadmjikhaaGreatDoor.E
namespace Go.Proofs.YtginfkadmjikhaaGreatDoor.E
open Go.RowKit Go.Proofs
set_option linter.unusedVariables false
set_option linter.unusedSimpArgs false
set_option maxRecDepth 100000
set_option maxHeartbeats 2000000
end Go.Proofs.YtginfkadmjikhaaGreatDoor.E
