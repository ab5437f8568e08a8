
/- Dc: desk.Do. -/
import Derived.Test.YtallmebpmoaopaaGreatDoorD1
import Derived.Test.YtallmebpmoaopaaGreatDoorX4
import Derived.Test.YtallmebpmoaopaaGreatDoorSp
namespace Go.Proofs.YtallmebpmoaopaaGreatDoor.E
open Go.RowKit Go.Proofs
set_option maxRecDepth 100000
set_option maxHeartbeats 1000000
set_option linter.unusedSimpArgs false
set_option linter.unusedVariables false

theorem desk_zones (zs : List S.Zone) (c : S.Cmd) (hk : 1 ≤ c.kind ∧ c.kind ≤ 6) (hz : 0 ≤ c.z) : C Tryz.prog 72 [.lst false 2 (zs.map (zoneC false)), .agg (cmdC false c)] (.tup [.lst true 2 ((S.deskZones zs c).1.map (zoneC false)), .agg (ansC true (S.deskZones zs c).2)]) [] := by
  obtain ⟨k, z, n, p, d⟩ := c
  simp only at hk hz
  rcases (by omega : k = 1 ∨ k = 2 ∨ k = 3 ∨ k = 4 ∨ k = 5 ∨ k = 6) with rfl | rfl | rfl | rfl | rfl | rfl
  · simpa [S.deskZones] using desk_zones1 zs z n p d
  · simpa [S.deskZones] using desk_zones2 zs z n p d
  · simpa [S.deskZones] using desk_zones3 zs z n p d
  · simpa [S.deskZones] using desk_zones4 zs z n p d
  · simpa [S.deskZones] using desk_zones5 zs z n p d
  · exact desk_zones6 zs z n p d hz

structure Small (d : S.Desk) : Prop where
  n : d.zs.length = 4
  z : ∀ z, z ∈ d.zs → z.d.length ≤ 8
  k : d.b.k.length = 3
theorem small_of {d : S.Desk} (h : S.checkDesk d = 0) : Small d ∧ S.checkZones d.zs = 0 ∧ S.checkBook d.b = 0 := by
  unfold S.checkDesk at h
  split at h
  · rename_i g; exact absurd h g
  · rename_i g
    have g : S.checkZones d.zs = 0 := by simpa using g
    refine ⟨⟨?_, fun z hz => ?_, ?_⟩, g, h⟩
    · unfold S.checkZones at g
      split at g
      · cases g
      · rename_i g2; simpa using g2
    · unfold S.checkZones at g
      split at g
      · cases g
      · split at g
        · rename_i g2; exact absurd g g2
        · rename_i g2
          have := firstBad_zero (by simpa using g2) z hz
          unfold S.checkZone at this
          split at this
          · cases this
          · split at this
            · cases this
            · rename_i g3; omega
    · unfold S.checkBook at h
      split at h
      · cases h
      · rename_i g2; simpa using g2

theorem desk_Copy (d : S.Desk) (h : Small d) : C Tryz.prog 63 [.agg (deskC false d)] (.agg (deskC true d)) [] := by
  obtain ⟨zs, b⟩ := d
  have h1 := hid (yard_Copy zs (by have := h.n; simp only at this; omega) (fun z hz => by have := h.z z hz; omega))
  have h2 := hid (book_Copy b (by have := h.k; simp only at this; omega))
  clear h
  refine C_inline [] Tryz.func63 (fun _ _ => by kernel_rfl) rfl (by kernel_rfl) (by rfl) (by decide) (by rfl) (by rfl) (by rfl) ?_
  simp -dsimp -implicitDefEqProofs [-getElem?_pos, -List.map_append, -List.map_set, List.getElem?_cons_zero, List.getElem?_cons_succ]
  refine call_CC (h1.out) ?_
  simp -dsimp -implicitDefEqProofs [-getElem?_pos, -List.map_append, -List.map_set, List.getElem?_cons_zero, List.getElem?_cons_succ]
  refine call_CC (h2.out) ?_
  simp -dsimp -implicitDefEqProofs [-getElem?_pos, -List.map_append, -List.map_set, List.getElem?_cons_zero, List.getElem?_cons_succ]
  exact ends_agg outL

theorem ends_aai {h : Heap} {n : Nat} {c1 t1 c2 t2 : List AV} {e e' : Int} (h1 : OutL h c1 t1) (h2 : OutL h c2 t2) (he : e = e') : Ends [] (.tup [.agg t1, .agg t2, Int' e']) [] h n (.tup [.agg c1, .agg c2, Int' e]) := by
  subst he
  obtain ⟨c1', o1, s1⟩ := h1
  obtain ⟨c2', o2, s2⟩ := h2
  refine ⟨⟨.tup [.agg c1', .agg c2', Int' e], ?_, .tup (.cons (.agg s1) (.cons (.agg s2) (.cons (.refl _) (.nil _))))⟩, rfl⟩
  have e1 : outAgg h [] (.agg c1) = some (.agg c1') := by
    show (c1.mapM (outLeaf h [])).map AV.agg = _
    rw [o1]; rfl
  have e2 : outAgg h [] (.agg c2) = some (.agg c2') := by
    show (c2.mapM (outLeaf h [])).map AV.agg = _
    rw [o2]; rfl
  show (List.mapM (outAgg h []) [.agg c1, .agg c2, Int' e]).map AV.tup = _
  rw [List.mapM_cons, e1, List.mapM_cons, e2]
  rfl

abbrev doR (r : S.Desk × S.Answer × Int) : AV := .tup [.agg (deskC true r.1), .agg (ansC true r.2.1), Int' r.2.2]

theorem desk_Do_bad1 (d : S.Desk) (who : Int) (c : S.Cmd) (h : S.checkDesk d ≠ 0) : C Tryz.prog 41 [.agg (deskC false d), Int' who, .agg (cmdC false c)] (doR (S.Desk.zero, S.Answer.zero, S.checkDesk d)) [] := by
  have h1 := hid (desk_Check d)
  generalize S.checkDesk d = e at *
  refine C_inlineG [(18, [16006])] [] Tryz.func41 (fun _ _ => by kernel_rfl) rfl (by kernel_rfl) (by rfl) (by decide) (by rfl) (by rfl) (by first | rfl | exact plain_I _ | exact plain_map (fun _ => rfl) _) ?_
  simp -dsimp -implicitDefEqProofs [-getElem?_pos, -List.map_append, -List.map_set, List.getElem?_cons_zero, List.getElem?_cons_succ]
  refine call_CC (h1.out) ?_
  simp -dsimp -implicitDefEqProofs [-getElem?_pos, -List.map_append, -List.map_set, List.getElem?_cons_zero, List.getElem?_cons_succ, h]
  exact ends_aai outL outL rfl

theorem desk_Do_bad2 (d : S.Desk) (who : Int) (c : S.Cmd) (h : S.checkDesk d = 0) (hw : who < 0 ∨ 3 ≤ who) : C Tryz.prog 41 [.agg (deskC false d), Int' who, .agg (cmdC false c)] (doR (S.Desk.zero, S.Answer.zero, 5)) [] := by
  have h1 := hid (h ▸ desk_Check d)
  clear h
  have cs : decide (who < 0) = true ∨ (decide (who < 0) = false ∧ decide (3 ≤ who) = true) := by simp; omega
  clear hw
  rcases cs with c1 | ⟨c1, c2⟩
  · refine C_inlineG [(18, [16006])] [] Tryz.func41 (fun _ _ => by kernel_rfl) rfl (by kernel_rfl) (by rfl) (by decide) (by rfl) (by rfl) (by first | rfl | exact plain_I _ | exact plain_map (fun _ => rfl) _) ?_
    simp -dsimp -implicitDefEqProofs [-getElem?_pos, -List.map_append, -List.map_set, List.getElem?_cons_zero, List.getElem?_cons_succ]
    refine call_CC (h1.out) ?_
    simp -dsimp -implicitDefEqProofs [-getElem?_pos, -List.map_append, -List.map_set, List.getElem?_cons_zero, List.getElem?_cons_succ, c1]
    exact ends_aai outL outL rfl
  · refine C_inlineG [(18, [16006])] [] Tryz.func41 (fun _ _ => by kernel_rfl) rfl (by kernel_rfl) (by rfl) (by decide) (by rfl) (by rfl) (by first | rfl | exact plain_I _ | exact plain_map (fun _ => rfl) _) ?_
    simp -dsimp -implicitDefEqProofs [-getElem?_pos, -List.map_append, -List.map_set, List.getElem?_cons_zero, List.getElem?_cons_succ]
    refine call_CC (h1.out) ?_
    simp -dsimp -implicitDefEqProofs [-getElem?_pos, -List.map_append, -List.map_set, List.getElem?_cons_zero, List.getElem?_cons_succ, c1, c2]
    exact ends_aai outL outL rfl

theorem desk_Do_bad3 (d : S.Desk) (who : Int) (c : S.Cmd) (h : S.checkDesk d = 0) (hw : 0 ≤ who ∧ who < 3) (hc : S.checkCmd c ≠ 0) : C Tryz.prog 41 [.agg (deskC false d), Int' who, .agg (cmdC false c)] (doR (S.Desk.zero, S.Answer.zero, S.checkCmd c)) [] := by
  have h1 := hid (h ▸ desk_Check d)
  clear h
  have c1 : decide (who < 0) = false := by simp; omega
  have c2 : decide (3 ≤ who) = false := by simp; omega
  have h2 := hid (cmd_Check c)
  generalize S.checkCmd c = e at *
  clear hw
  refine C_inlineG [(18, [16006])] [] Tryz.func41 (fun _ _ => by kernel_rfl) rfl (by kernel_rfl) (by rfl) (by decide) (by rfl) (by rfl) (by first | rfl | exact plain_I _ | exact plain_map (fun _ => rfl) _) ?_
  simp -dsimp -implicitDefEqProofs [-getElem?_pos, -List.map_append, -List.map_set, List.getElem?_cons_zero, List.getElem?_cons_succ]
  refine call_CC (h1.out) ?_
  simp -dsimp -implicitDefEqProofs [-getElem?_pos, -List.map_append, -List.map_set, List.getElem?_cons_zero, List.getElem?_cons_succ, c1, c2]
  refine call_CC (h2.out) ?_
  simp -dsimp -implicitDefEqProofs [-getElem?_pos, -List.map_append, -List.map_set, List.getElem?_cons_zero, List.getElem?_cons_succ, hc]
  exact ends_aai outL outL rfl

/-- what a right command of a right hand at a right desk meets -/
structure Pre (d : S.Desk) (who : Int) (c : S.Cmd) : Prop where
  d0 : S.checkDesk d = 0
  w0 : 0 ≤ who
  w1 : who < 3
  c0 : S.checkCmd c = 0

theorem desk_Do8 (zs : List S.Zone) (b : S.Book) (who z n p : Int) (dd : List Int) (h : Pre ⟨zs, b⟩ who ⟨8, z, n, p, dd⟩) : C Tryz.prog 41 [.agg (deskC false ⟨zs, b⟩), Int' who, .agg (cmdC false ⟨8, z, n, p, dd⟩)] (doR (if (S.register b who n).2 = 0 then ⟨zs, (S.register b who n).1⟩ else ⟨zs, b⟩, ⟨(S.register b who n).2, 0, []⟩, 0)) [] := by
  have h1 := hid (h.d0 ▸ desk_Check ⟨zs, b⟩)
  have h2 := hid (h.c0 ▸ cmd_Check ⟨8, z, n, p, dd⟩)
  have h3 := hid (desk_Copy ⟨zs, b⟩ (small_of h.d0).1)
  have c1 : decide (who < 0) = false := by have := h.w0; simp; omega
  have c2 : decide (3 ≤ who) = false := by have := h.w1; simp; omega
  have h4 := book_Register b who n
  clear h
  generalize S.register b who n = r at *
  obtain ⟨b', e⟩ := r
  simp only at h4
  replace h4 := hid h4
  by_cases he : e = 0
  · subst he
    refine C_inlineG [(18, [16006])] [] Tryz.func41 (fun _ _ => by kernel_rfl) rfl (by kernel_rfl) (by rfl) (by decide) (by rfl) (by rfl) (by first | rfl | exact plain_I _ | exact plain_map (fun _ => rfl) _) ?_
    simp -dsimp -implicitDefEqProofs [-getElem?_pos, -List.map_append, -List.map_set, List.getElem?_cons_zero, List.getElem?_cons_succ]
    refine call_CC (h1.out) ?_
    simp -dsimp -implicitDefEqProofs [-getElem?_pos, -List.map_append, -List.map_set, List.getElem?_cons_zero, List.getElem?_cons_succ, c1, c2]
    refine call_CC (h2.out) ?_
    simp -dsimp -implicitDefEqProofs [-getElem?_pos, -List.map_append, -List.map_set, List.getElem?_cons_zero, List.getElem?_cons_succ]
    refine call_CC (h3.out) ?_
    simp -dsimp -implicitDefEqProofs [-getElem?_pos, -List.map_append, -List.map_set, List.getElem?_cons_zero, List.getElem?_cons_succ]
    refine call_CC (h4.out) ?_
    simp -dsimp -implicitDefEqProofs [-getElem?_pos, -List.map_append, -List.map_set, List.getElem?_cons_zero, List.getElem?_cons_succ]
    exact ends_aai outL outL rfl
  · refine C_inlineG [(18, [16006])] [] Tryz.func41 (fun _ _ => by kernel_rfl) rfl (by kernel_rfl) (by rfl) (by decide) (by rfl) (by rfl) (by first | rfl | exact plain_I _ | exact plain_map (fun _ => rfl) _) ?_
    simp -dsimp -implicitDefEqProofs [-getElem?_pos, -List.map_append, -List.map_set, List.getElem?_cons_zero, List.getElem?_cons_succ]
    refine call_CC (h1.out) ?_
    simp -dsimp -implicitDefEqProofs [-getElem?_pos, -List.map_append, -List.map_set, List.getElem?_cons_zero, List.getElem?_cons_succ, c1, c2]
    refine call_CC (h2.out) ?_
    simp -dsimp -implicitDefEqProofs [-getElem?_pos, -List.map_append, -List.map_set, List.getElem?_cons_zero, List.getElem?_cons_succ]
    refine call_CC (h3.out) ?_
    simp -dsimp -implicitDefEqProofs [-getElem?_pos, -List.map_append, -List.map_set, List.getElem?_cons_zero, List.getElem?_cons_succ]
    refine call_CC (h4.out) ?_
    simp -dsimp -implicitDefEqProofs [-getElem?_pos, -List.map_append, -List.map_set, List.getElem?_cons_zero, List.getElem?_cons_succ, he]
    exact ends_aai outL outL rfl

theorem desk_Do9 (zs : List S.Zone) (b : S.Book) (who z n p : Int) (dd : List Int) (h : Pre ⟨zs, b⟩ who ⟨9, z, n, p, dd⟩) : C Tryz.prog 41 [.agg (deskC false ⟨zs, b⟩), Int' who, .agg (cmdC false ⟨9, z, n, p, dd⟩)] (doR (if (S.reserve b who n).2 = 0 then ⟨zs, (S.reserve b who n).1⟩ else ⟨zs, b⟩, ⟨(S.reserve b who n).2, 0, []⟩, 0)) [] := by
  have h1 := hid (h.d0 ▸ desk_Check ⟨zs, b⟩)
  have h2 := hid (h.c0 ▸ cmd_Check ⟨9, z, n, p, dd⟩)
  have h3 := hid (desk_Copy ⟨zs, b⟩ (small_of h.d0).1)
  have c1 : decide (who < 0) = false := by have := h.w0; simp; omega
  have c2 : decide (3 ≤ who) = false := by have := h.w1; simp; omega
  have h4 := book_Reserve b who n
  clear h
  generalize S.reserve b who n = r at *
  obtain ⟨b', e⟩ := r
  simp only at h4
  replace h4 := hid h4
  by_cases he : e = 0
  · subst he
    refine C_inlineG [(18, [16006])] [] Tryz.func41 (fun _ _ => by kernel_rfl) rfl (by kernel_rfl) (by rfl) (by decide) (by rfl) (by rfl) (by first | rfl | exact plain_I _ | exact plain_map (fun _ => rfl) _) ?_
    simp -dsimp -implicitDefEqProofs [-getElem?_pos, -List.map_append, -List.map_set, List.getElem?_cons_zero, List.getElem?_cons_succ]
    refine call_CC (h1.out) ?_
    simp -dsimp -implicitDefEqProofs [-getElem?_pos, -List.map_append, -List.map_set, List.getElem?_cons_zero, List.getElem?_cons_succ, c1, c2]
    refine call_CC (h2.out) ?_
    simp -dsimp -implicitDefEqProofs [-getElem?_pos, -List.map_append, -List.map_set, List.getElem?_cons_zero, List.getElem?_cons_succ]
    refine call_CC (h3.out) ?_
    simp -dsimp -implicitDefEqProofs [-getElem?_pos, -List.map_append, -List.map_set, List.getElem?_cons_zero, List.getElem?_cons_succ]
    refine call_CC (h4.out) ?_
    simp -dsimp -implicitDefEqProofs [-getElem?_pos, -List.map_append, -List.map_set, List.getElem?_cons_zero, List.getElem?_cons_succ]
    exact ends_aai outL outL rfl
  · refine C_inlineG [(18, [16006])] [] Tryz.func41 (fun _ _ => by kernel_rfl) rfl (by kernel_rfl) (by rfl) (by decide) (by rfl) (by rfl) (by first | rfl | exact plain_I _ | exact plain_map (fun _ => rfl) _) ?_
    simp -dsimp -implicitDefEqProofs [-getElem?_pos, -List.map_append, -List.map_set, List.getElem?_cons_zero, List.getElem?_cons_succ]
    refine call_CC (h1.out) ?_
    simp -dsimp -implicitDefEqProofs [-getElem?_pos, -List.map_append, -List.map_set, List.getElem?_cons_zero, List.getElem?_cons_succ, c1, c2]
    refine call_CC (h2.out) ?_
    simp -dsimp -implicitDefEqProofs [-getElem?_pos, -List.map_append, -List.map_set, List.getElem?_cons_zero, List.getElem?_cons_succ]
    refine call_CC (h3.out) ?_
    simp -dsimp -implicitDefEqProofs [-getElem?_pos, -List.map_append, -List.map_set, List.getElem?_cons_zero, List.getElem?_cons_succ]
    refine call_CC (h4.out) ?_
    simp -dsimp -implicitDefEqProofs [-getElem?_pos, -List.map_append, -List.map_set, List.getElem?_cons_zero, List.getElem?_cons_succ, he]
    exact ends_aai outL outL rfl

theorem desk_Do10 (zs : List S.Zone) (b : S.Book) (who z n p : Int) (dd : List Int) (h : Pre ⟨zs, b⟩ who ⟨10, z, n, p, dd⟩) : C Tryz.prog 41 [.agg (deskC false ⟨zs, b⟩), Int' who, .agg (cmdC false ⟨10, z, n, p, dd⟩)] (doR (if (S.release b who).2 = 0 then ⟨zs, (S.release b who).1⟩ else ⟨zs, b⟩, ⟨(S.release b who).2, 0, []⟩, 0)) [] := by
  have h1 := hid (h.d0 ▸ desk_Check ⟨zs, b⟩)
  have h2 := hid (h.c0 ▸ cmd_Check ⟨10, z, n, p, dd⟩)
  have h3 := hid (desk_Copy ⟨zs, b⟩ (small_of h.d0).1)
  have c1 : decide (who < 0) = false := by have := h.w0; simp; omega
  have c2 : decide (3 ≤ who) = false := by have := h.w1; simp; omega
  have h4 := book_Release b who
  clear h
  generalize S.release b who = r at *
  obtain ⟨b', e⟩ := r
  simp only at h4
  replace h4 := hid h4
  by_cases he : e = 0
  · subst he
    refine C_inlineG [(18, [16006])] [] Tryz.func41 (fun _ _ => by kernel_rfl) rfl (by kernel_rfl) (by rfl) (by decide) (by rfl) (by rfl) (by first | rfl | exact plain_I _ | exact plain_map (fun _ => rfl) _) ?_
    simp -dsimp -implicitDefEqProofs [-getElem?_pos, -List.map_append, -List.map_set, List.getElem?_cons_zero, List.getElem?_cons_succ]
    refine call_CC (h1.out) ?_
    simp -dsimp -implicitDefEqProofs [-getElem?_pos, -List.map_append, -List.map_set, List.getElem?_cons_zero, List.getElem?_cons_succ, c1, c2]
    refine call_CC (h2.out) ?_
    simp -dsimp -implicitDefEqProofs [-getElem?_pos, -List.map_append, -List.map_set, List.getElem?_cons_zero, List.getElem?_cons_succ]
    refine call_CC (h3.out) ?_
    simp -dsimp -implicitDefEqProofs [-getElem?_pos, -List.map_append, -List.map_set, List.getElem?_cons_zero, List.getElem?_cons_succ]
    refine call_CC (h4.out) ?_
    simp -dsimp -implicitDefEqProofs [-getElem?_pos, -List.map_append, -List.map_set, List.getElem?_cons_zero, List.getElem?_cons_succ]
    exact ends_aai outL outL rfl
  · refine C_inlineG [(18, [16006])] [] Tryz.func41 (fun _ _ => by kernel_rfl) rfl (by kernel_rfl) (by rfl) (by decide) (by rfl) (by rfl) (by first | rfl | exact plain_I _ | exact plain_map (fun _ => rfl) _) ?_
    simp -dsimp -implicitDefEqProofs [-getElem?_pos, -List.map_append, -List.map_set, List.getElem?_cons_zero, List.getElem?_cons_succ]
    refine call_CC (h1.out) ?_
    simp -dsimp -implicitDefEqProofs [-getElem?_pos, -List.map_append, -List.map_set, List.getElem?_cons_zero, List.getElem?_cons_succ, c1, c2]
    refine call_CC (h2.out) ?_
    simp -dsimp -implicitDefEqProofs [-getElem?_pos, -List.map_append, -List.map_set, List.getElem?_cons_zero, List.getElem?_cons_succ]
    refine call_CC (h3.out) ?_
    simp -dsimp -implicitDefEqProofs [-getElem?_pos, -List.map_append, -List.map_set, List.getElem?_cons_zero, List.getElem?_cons_succ]
    refine call_CC (h4.out) ?_
    simp -dsimp -implicitDefEqProofs [-getElem?_pos, -List.map_append, -List.map_set, List.getElem?_cons_zero, List.getElem?_cons_succ, he]
    exact ends_aai outL outL rfl

theorem desk_Do11 (zs : List S.Zone) (b : S.Book) (who z n p : Int) (dd : List Int) (h : Pre ⟨zs, b⟩ who ⟨11, z, n, p, dd⟩) : C Tryz.prog 41 [.agg (deskC false ⟨zs, b⟩), Int' who, .agg (cmdC false ⟨11, z, n, p, dd⟩)] (doR (if (S.preempt b who n).2 = 0 then ⟨zs, (S.preempt b who n).1⟩ else ⟨zs, b⟩, ⟨(S.preempt b who n).2, 0, []⟩, 0)) [] := by
  have h1 := hid (h.d0 ▸ desk_Check ⟨zs, b⟩)
  have h2 := hid (h.c0 ▸ cmd_Check ⟨11, z, n, p, dd⟩)
  have h3 := hid (desk_Copy ⟨zs, b⟩ (small_of h.d0).1)
  have c1 : decide (who < 0) = false := by have := h.w0; simp; omega
  have c2 : decide (3 ≤ who) = false := by have := h.w1; simp; omega
  have h4 := book_Preempt b who n
  clear h
  generalize S.preempt b who n = r at *
  obtain ⟨b', e⟩ := r
  simp only at h4
  replace h4 := hid h4
  by_cases he : e = 0
  · subst he
    refine C_inlineG [(18, [16006])] [] Tryz.func41 (fun _ _ => by kernel_rfl) rfl (by kernel_rfl) (by rfl) (by decide) (by rfl) (by rfl) (by first | rfl | exact plain_I _ | exact plain_map (fun _ => rfl) _) ?_
    simp -dsimp -implicitDefEqProofs [-getElem?_pos, -List.map_append, -List.map_set, List.getElem?_cons_zero, List.getElem?_cons_succ]
    refine call_CC (h1.out) ?_
    simp -dsimp -implicitDefEqProofs [-getElem?_pos, -List.map_append, -List.map_set, List.getElem?_cons_zero, List.getElem?_cons_succ, c1, c2]
    refine call_CC (h2.out) ?_
    simp -dsimp -implicitDefEqProofs [-getElem?_pos, -List.map_append, -List.map_set, List.getElem?_cons_zero, List.getElem?_cons_succ]
    refine call_CC (h3.out) ?_
    simp -dsimp -implicitDefEqProofs [-getElem?_pos, -List.map_append, -List.map_set, List.getElem?_cons_zero, List.getElem?_cons_succ]
    refine call_CC (h4.out) ?_
    simp -dsimp -implicitDefEqProofs [-getElem?_pos, -List.map_append, -List.map_set, List.getElem?_cons_zero, List.getElem?_cons_succ]
    exact ends_aai outL outL rfl
  · refine C_inlineG [(18, [16006])] [] Tryz.func41 (fun _ _ => by kernel_rfl) rfl (by kernel_rfl) (by rfl) (by decide) (by rfl) (by rfl) (by first | rfl | exact plain_I _ | exact plain_map (fun _ => rfl) _) ?_
    simp -dsimp -implicitDefEqProofs [-getElem?_pos, -List.map_append, -List.map_set, List.getElem?_cons_zero, List.getElem?_cons_succ]
    refine call_CC (h1.out) ?_
    simp -dsimp -implicitDefEqProofs [-getElem?_pos, -List.map_append, -List.map_set, List.getElem?_cons_zero, List.getElem?_cons_succ, c1, c2]
    refine call_CC (h2.out) ?_
    simp -dsimp -implicitDefEqProofs [-getElem?_pos, -List.map_append, -List.map_set, List.getElem?_cons_zero, List.getElem?_cons_succ]
    refine call_CC (h3.out) ?_
    simp -dsimp -implicitDefEqProofs [-getElem?_pos, -List.map_append, -List.map_set, List.getElem?_cons_zero, List.getElem?_cons_succ]
    refine call_CC (h4.out) ?_
    simp -dsimp -implicitDefEqProofs [-getElem?_pos, -List.map_append, -List.map_set, List.getElem?_cons_zero, List.getElem?_cons_succ, he]
    exact ends_aai outL outL rfl

theorem desk_Do12 (zs : List S.Zone) (b : S.Book) (who z n p : Int) (dd : List Int) (h : Pre ⟨zs, b⟩ who ⟨12, z, n, p, dd⟩) : C Tryz.prog 41 [.agg (deskC false ⟨zs, b⟩), Int' who, .agg (cmdC false ⟨12, z, n, p, dd⟩)] (doR (if (S.clear b who).2 = 0 then ⟨zs, (S.clear b who).1⟩ else ⟨zs, b⟩, ⟨(S.clear b who).2, 0, []⟩, 0)) [] := by
  have h1 := hid (h.d0 ▸ desk_Check ⟨zs, b⟩)
  have h2 := hid (h.c0 ▸ cmd_Check ⟨12, z, n, p, dd⟩)
  have h3 := hid (desk_Copy ⟨zs, b⟩ (small_of h.d0).1)
  have c1 : decide (who < 0) = false := by have := h.w0; simp; omega
  have c2 : decide (3 ≤ who) = false := by have := h.w1; simp; omega
  have h4 := book_Clear b who
  clear h
  generalize S.clear b who = r at *
  obtain ⟨b', e⟩ := r
  simp only at h4
  replace h4 := hid h4
  by_cases he : e = 0
  · subst he
    refine C_inlineG [(18, [16006])] [] Tryz.func41 (fun _ _ => by kernel_rfl) rfl (by kernel_rfl) (by rfl) (by decide) (by rfl) (by rfl) (by first | rfl | exact plain_I _ | exact plain_map (fun _ => rfl) _) ?_
    simp -dsimp -implicitDefEqProofs [-getElem?_pos, -List.map_append, -List.map_set, List.getElem?_cons_zero, List.getElem?_cons_succ]
    refine call_CC (h1.out) ?_
    simp -dsimp -implicitDefEqProofs [-getElem?_pos, -List.map_append, -List.map_set, List.getElem?_cons_zero, List.getElem?_cons_succ, c1, c2]
    refine call_CC (h2.out) ?_
    simp -dsimp -implicitDefEqProofs [-getElem?_pos, -List.map_append, -List.map_set, List.getElem?_cons_zero, List.getElem?_cons_succ]
    refine call_CC (h3.out) ?_
    simp -dsimp -implicitDefEqProofs [-getElem?_pos, -List.map_append, -List.map_set, List.getElem?_cons_zero, List.getElem?_cons_succ]
    refine call_CC (h4.out) ?_
    simp -dsimp -implicitDefEqProofs [-getElem?_pos, -List.map_append, -List.map_set, List.getElem?_cons_zero, List.getElem?_cons_succ]
    exact ends_aai outL outL rfl
  · refine C_inlineG [(18, [16006])] [] Tryz.func41 (fun _ _ => by kernel_rfl) rfl (by kernel_rfl) (by rfl) (by decide) (by rfl) (by rfl) (by first | rfl | exact plain_I _ | exact plain_map (fun _ => rfl) _) ?_
    simp -dsimp -implicitDefEqProofs [-getElem?_pos, -List.map_append, -List.map_set, List.getElem?_cons_zero, List.getElem?_cons_succ]
    refine call_CC (h1.out) ?_
    simp -dsimp -implicitDefEqProofs [-getElem?_pos, -List.map_append, -List.map_set, List.getElem?_cons_zero, List.getElem?_cons_succ, c1, c2]
    refine call_CC (h2.out) ?_
    simp -dsimp -implicitDefEqProofs [-getElem?_pos, -List.map_append, -List.map_set, List.getElem?_cons_zero, List.getElem?_cons_succ]
    refine call_CC (h3.out) ?_
    simp -dsimp -implicitDefEqProofs [-getElem?_pos, -List.map_append, -List.map_set, List.getElem?_cons_zero, List.getElem?_cons_succ]
    refine call_CC (h4.out) ?_
    simp -dsimp -implicitDefEqProofs [-getElem?_pos, -List.map_append, -List.map_set, List.getElem?_cons_zero, List.getElem?_cons_succ, he]
    exact ends_aai outL outL rfl

theorem desk_DoZ (zs : List S.Zone) (b : S.Book) (who k z n p : Int) (dd : List Int) (h : Pre ⟨zs, b⟩ who ⟨k, z, n, p, dd⟩) (hk : 1 ≤ k ∧ k ≤ 6) (hz : 0 ≤ z) : C Tryz.prog 41 [.agg (deskC false ⟨zs, b⟩), Int' who, .agg (cmdC false ⟨k, z, n, p, dd⟩)]
    (doR (if S.might b who (!decide (k = 7)) = false then (⟨zs, b⟩, ⟨8, 0, []⟩, 0) else (if (S.deskZones zs ⟨k, z, n, p, dd⟩).2.e = 0 then ⟨(S.deskZones zs ⟨k, z, n, p, dd⟩).1, b⟩ else ⟨zs, b⟩, (S.deskZones zs ⟨k, z, n, p, dd⟩).2, 0))) [] := by
  have h1 := hid (h.d0 ▸ desk_Check ⟨zs, b⟩)
  have h2 := hid (h.c0 ▸ cmd_Check ⟨k, z, n, p, dd⟩)
  have h3 := hid (desk_Copy ⟨zs, b⟩ (small_of h.d0).1)
  have c1 : decide (who < 0) = false := by have := h.w0; simp; omega
  have c2 : decide (3 ≤ who) = false := by have := h.w1; simp; omega
  have k8 : decide (k = 8) = false := by simp; omega
  have k9 : decide (k = 9) = false := by simp; omega
  have k10 : decide (k = 10) = false := by simp; omega
  have k11 : decide (k = 11) = false := by simp; omega
  have k12 : decide (k = 12) = false := by simp; omega
  have h5 := hid (desk_zones zs ⟨k, z, n, p, dd⟩ hk hz)
  have h4 : C Tryz.prog 71 [Bk b, Int' who, Bool' (!decide (k = 7))] (.tup [Bool' (S.might b who (!decide (k = 7))), Int' 0]) [] := by
    have := book_May b who (!decide (k = 7))
    unfold S.may at this
    have hr : S.ready b who = 0 := by
      unfold S.ready
      have q1 := (small_of h.d0).2.2
      have q2 := h.w0
      have q3 := h.w1
      simp only at q1
      rw [if_neg (by simp [q1]), if_neg (by omega)]
    rw [if_neg (by simp [hr])] at this
    exact this
  replace h4 := hid h4
  clear h hk hz
  generalize S.might b who (!decide (k = 7)) = m at *
  generalize S.deskZones zs ⟨k, z, n, p, dd⟩ = r at *
  obtain ⟨zs', e, pos, dl⟩ := r
  cases m
  · refine C_inlineG [(18, [16006])] [] Tryz.func41 (fun _ _ => by kernel_rfl) rfl (by kernel_rfl) (by rfl) (by decide) (by rfl) (by rfl) (by first | rfl | exact plain_I _ | exact plain_map (fun _ => rfl) _) ?_
    simp -dsimp -implicitDefEqProofs [-getElem?_pos, -List.map_append, -List.map_set, List.getElem?_cons_zero, List.getElem?_cons_succ]
    refine call_CC (h1.out) ?_
    simp -dsimp -implicitDefEqProofs [-getElem?_pos, -List.map_append, -List.map_set, List.getElem?_cons_zero, List.getElem?_cons_succ, c1, c2]
    refine call_CC (h2.out) ?_
    simp -dsimp -implicitDefEqProofs [-getElem?_pos, -List.map_append, -List.map_set, List.getElem?_cons_zero, List.getElem?_cons_succ]
    refine call_CC (h3.out) ?_
    simp -dsimp -implicitDefEqProofs [-getElem?_pos, -List.map_append, -List.map_set, List.getElem?_cons_zero, List.getElem?_cons_succ, k8, k9, k10, k11, k12]
    refine call_CC (h4.out) ?_
    simp -dsimp -implicitDefEqProofs [-getElem?_pos, -List.map_append, -List.map_set, List.getElem?_cons_zero, List.getElem?_cons_succ]
    exact ends_aai outL outL rfl
  · by_cases he : e = 0
    · subst he
      refine C_inlineG [(18, [16006])] [] Tryz.func41 (fun _ _ => by kernel_rfl) rfl (by kernel_rfl) (by rfl) (by decide) (by rfl) (by rfl) (by first | rfl | exact plain_I _ | exact plain_map (fun _ => rfl) _) ?_
      simp -dsimp -implicitDefEqProofs [-getElem?_pos, -List.map_append, -List.map_set, List.getElem?_cons_zero, List.getElem?_cons_succ]
      refine call_CC (h1.out) ?_
      simp -dsimp -implicitDefEqProofs [-getElem?_pos, -List.map_append, -List.map_set, List.getElem?_cons_zero, List.getElem?_cons_succ, c1, c2]
      refine call_CC (h2.out) ?_
      simp -dsimp -implicitDefEqProofs [-getElem?_pos, -List.map_append, -List.map_set, List.getElem?_cons_zero, List.getElem?_cons_succ]
      refine call_CC (h3.out) ?_
      simp -dsimp -implicitDefEqProofs [-getElem?_pos, -List.map_append, -List.map_set, List.getElem?_cons_zero, List.getElem?_cons_succ, k8, k9, k10, k11, k12]
      refine call_CC (h4.out) ?_
      simp -dsimp -implicitDefEqProofs [-getElem?_pos, -List.map_append, -List.map_set, List.getElem?_cons_zero, List.getElem?_cons_succ]
      refine call_CC (h5.out) ?_
      simp -dsimp -implicitDefEqProofs [-getElem?_pos, -List.map_append, -List.map_set, List.getElem?_cons_zero, List.getElem?_cons_succ]
      exact ends_aai outL outL rfl
    · refine C_inlineG [(18, [16006])] [] Tryz.func41 (fun _ _ => by kernel_rfl) rfl (by kernel_rfl) (by rfl) (by decide) (by rfl) (by rfl) (by first | rfl | exact plain_I _ | exact plain_map (fun _ => rfl) _) ?_
      simp -dsimp -implicitDefEqProofs [-getElem?_pos, -List.map_append, -List.map_set, List.getElem?_cons_zero, List.getElem?_cons_succ]
      refine call_CC (h1.out) ?_
      simp -dsimp -implicitDefEqProofs [-getElem?_pos, -List.map_append, -List.map_set, List.getElem?_cons_zero, List.getElem?_cons_succ, c1, c2]
      refine call_CC (h2.out) ?_
      simp -dsimp -implicitDefEqProofs [-getElem?_pos, -List.map_append, -List.map_set, List.getElem?_cons_zero, List.getElem?_cons_succ]
      refine call_CC (h3.out) ?_
      simp -dsimp -implicitDefEqProofs [-getElem?_pos, -List.map_append, -List.map_set, List.getElem?_cons_zero, List.getElem?_cons_succ, k8, k9, k10, k11, k12]
      refine call_CC (h4.out) ?_
      simp -dsimp -implicitDefEqProofs [-getElem?_pos, -List.map_append, -List.map_set, List.getElem?_cons_zero, List.getElem?_cons_succ]
      refine call_CC (h5.out) ?_
      simp -dsimp -implicitDefEqProofs [-getElem?_pos, -List.map_append, -List.map_set, List.getElem?_cons_zero, List.getElem?_cons_succ, he]
      exact ends_aai outL outL rfl

theorem desk_Do7 (zs : List S.Zone) (b : S.Book) (who z n p : Int) (dd : List Int) (h : Pre ⟨zs, b⟩ who ⟨7, z, n, p, dd⟩) (hz : 0 ≤ z) : C Tryz.prog 41 [.agg (deskC false ⟨zs, b⟩), Int' who, .agg (cmdC false ⟨7, z, n, p, dd⟩)]
    (doR (if S.might b who (!decide ((7 : Int) = 7)) = false then (⟨zs, b⟩, ⟨8, 0, []⟩, 0) else (if (S.deskZones zs ⟨7, z, n, p, dd⟩).2.e = 0 then ⟨(S.deskZones zs ⟨7, z, n, p, dd⟩).1, b⟩ else ⟨zs, b⟩, (S.deskZones zs ⟨7, z, n, p, dd⟩).2, 0))) [] := by
  have h1 := hid (h.d0 ▸ desk_Check ⟨zs, b⟩)
  have h2 := hid (h.c0 ▸ cmd_Check ⟨7, z, n, p, dd⟩)
  have h3 := hid (desk_Copy ⟨zs, b⟩ (small_of h.d0).1)
  have c1 : decide (who < 0) = false := by have := h.w0; simp; omega
  have c2 : decide (3 ≤ who) = false := by have := h.w1; simp; omega
  have h4 : C Tryz.prog 71 [Bk b, Int' who, Bool' false] (.tup [Bool' (S.might b who false), Int' 0]) [] := by
    have := book_May b who false
    unfold S.may at this
    have hr : S.ready b who = 0 := by
      unfold S.ready
      have q1 := (small_of h.d0).2.2
      have q2 := h.w0
      have q3 := h.w1
      simp only at q1
      rw [if_neg (by simp [q1]), if_neg (by omega)]
    rw [if_neg (by simp [hr])] at this
    exact this
  replace h4 := hid h4
  clear h
  simp only [decide_true, Bool.not_true]
  generalize S.might b who false = m at *
  obtain ⟨r, hr⟩ : ∃ r, S.deskZones zs ⟨7, z, n, p, dd⟩ = r := ⟨_, rfl⟩
  rw [hr]
  unfold S.deskZones at hr
  simp only at hr
  rw [if_neg (by decide), if_neg (by decide), if_neg (by decide), if_neg (by decide), if_neg (by simp), if_neg (by decide)] at hr
  obtain ⟨i, rfl⟩ : ∃ i : Nat, z = i := ⟨z.toNat, by omega⟩
  clear hz
  simp only [Int.toNat_natCast] at hr
  cases m
  · clear hr
    refine C_inlineG [(18, [16006])] [] Tryz.func41 (fun _ _ => by kernel_rfl) rfl (by kernel_rfl) (by rfl) (by decide) (by rfl) (by rfl) (by first | rfl | exact plain_I _ | exact plain_map (fun _ => rfl) _) ?_
    simp -dsimp -implicitDefEqProofs [-getElem?_pos, -List.map_append, -List.map_set, List.getElem?_cons_zero, List.getElem?_cons_succ]
    refine call_CC (h1.out) ?_
    simp -dsimp -implicitDefEqProofs [-getElem?_pos, -List.map_append, -List.map_set, List.getElem?_cons_zero, List.getElem?_cons_succ, c1, c2]
    refine call_CC (h2.out) ?_
    simp -dsimp -implicitDefEqProofs [-getElem?_pos, -List.map_append, -List.map_set, List.getElem?_cons_zero, List.getElem?_cons_succ]
    refine call_CC (h3.out) ?_
    simp -dsimp -implicitDefEqProofs [-getElem?_pos, -List.map_append, -List.map_set, List.getElem?_cons_zero, List.getElem?_cons_succ]
    refine call_CC (h4.out) ?_
    simp -dsimp -implicitDefEqProofs [-getElem?_pos, -List.map_append, -List.map_set, List.getElem?_cons_zero, List.getElem?_cons_succ]
    exact ends_aai outL outL rfl
  by_cases hi : i < zs.length
  · obtain ⟨y, hy⟩ : ∃ y, zs[i]? = some y := ⟨zs[i], by simp⟩
    rw [getD_of hy, if_neg (by omega)] at hr
    have h5 := zone_Read y p n
    generalize S.readZone y p n = w at *
    obtain ⟨dl, e⟩ := w
    simp only at h5 hr
    replace h5 := hid h5
    subst hr
    have hi' : decide (zs.length ≤ i) = false := by simp; omega
    by_cases he : e = 0
    · subst he
      refine C_inlineG [(18, [16006])] [] Tryz.func41 (fun _ _ => by kernel_rfl) rfl (by kernel_rfl) (by rfl) (by decide) (by rfl) (by rfl) (by first | rfl | exact plain_I _ | exact plain_map (fun _ => rfl) _) ?_
      simp -dsimp -implicitDefEqProofs [-getElem?_pos, -List.map_append, -List.map_set, List.getElem?_cons_zero, List.getElem?_cons_succ]
      refine call_CC (h1.out) ?_
      simp -dsimp -implicitDefEqProofs [-getElem?_pos, -List.map_append, -List.map_set, List.getElem?_cons_zero, List.getElem?_cons_succ, c1, c2]
      refine call_CC (h2.out) ?_
      simp -dsimp -implicitDefEqProofs [-getElem?_pos, -List.map_append, -List.map_set, List.getElem?_cons_zero, List.getElem?_cons_succ]
      refine call_CC (h3.out) ?_
      simp -dsimp -implicitDefEqProofs [-getElem?_pos, -List.map_append, -List.map_set, List.getElem?_cons_zero, List.getElem?_cons_succ]
      refine call_CC (h4.out) ?_
      simp -dsimp -implicitDefEqProofs [-getElem?_pos, -List.map_append, -List.map_set, List.getElem?_cons_zero, List.getElem?_cons_succ]
      refine call_CS (CS_inline (typesOk _) Tryz.func72 (fun _ _ => by kernel_rfl) rfl (by kernel_rfl) (Nat.le_of_ble_eq_true rfl) ?_)
      simp -dsimp -implicitDefEqProofs [-getElem?_pos, -List.map_append, -List.map_set, List.getElem?_cons_zero, List.getElem?_cons_succ, hi', hi, hy]
      refine call_CC (h5.out) ?_
      simp -dsimp -implicitDefEqProofs [-getElem?_pos, -List.map_append, -List.map_set, List.getElem?_cons_zero, List.getElem?_cons_succ]
      exact ends_aai outL outL rfl
    · refine C_inlineG [(18, [16006])] [] Tryz.func41 (fun _ _ => by kernel_rfl) rfl (by kernel_rfl) (by rfl) (by decide) (by rfl) (by rfl) (by first | rfl | exact plain_I _ | exact plain_map (fun _ => rfl) _) ?_
      simp -dsimp -implicitDefEqProofs [-getElem?_pos, -List.map_append, -List.map_set, List.getElem?_cons_zero, List.getElem?_cons_succ]
      refine call_CC (h1.out) ?_
      simp -dsimp -implicitDefEqProofs [-getElem?_pos, -List.map_append, -List.map_set, List.getElem?_cons_zero, List.getElem?_cons_succ, c1, c2]
      refine call_CC (h2.out) ?_
      simp -dsimp -implicitDefEqProofs [-getElem?_pos, -List.map_append, -List.map_set, List.getElem?_cons_zero, List.getElem?_cons_succ]
      refine call_CC (h3.out) ?_
      simp -dsimp -implicitDefEqProofs [-getElem?_pos, -List.map_append, -List.map_set, List.getElem?_cons_zero, List.getElem?_cons_succ]
      refine call_CC (h4.out) ?_
      simp -dsimp -implicitDefEqProofs [-getElem?_pos, -List.map_append, -List.map_set, List.getElem?_cons_zero, List.getElem?_cons_succ]
      refine call_CS (CS_inline (typesOk _) Tryz.func72 (fun _ _ => by kernel_rfl) rfl (by kernel_rfl) (Nat.le_of_ble_eq_true rfl) ?_)
      simp -dsimp -implicitDefEqProofs [-getElem?_pos, -List.map_append, -List.map_set, List.getElem?_cons_zero, List.getElem?_cons_succ, hi', hi, hy]
      refine call_CC (h5.out) ?_
      simp -dsimp -implicitDefEqProofs [-getElem?_pos, -List.map_append, -List.map_set, List.getElem?_cons_zero, List.getElem?_cons_succ, he]
      exact ends_aai outL outL rfl
  · rw [if_pos (by omega)] at hr
    subst hr
    have hi' : decide (zs.length ≤ i) = true := by simp; omega
    refine C_inlineG [(18, [16006])] [] Tryz.func41 (fun _ _ => by kernel_rfl) rfl (by kernel_rfl) (by rfl) (by decide) (by rfl) (by rfl) (by first | rfl | exact plain_I _ | exact plain_map (fun _ => rfl) _) ?_
    simp -dsimp -implicitDefEqProofs [-getElem?_pos, -List.map_append, -List.map_set, List.getElem?_cons_zero, List.getElem?_cons_succ]
    refine call_CC (h1.out) ?_
    simp -dsimp -implicitDefEqProofs [-getElem?_pos, -List.map_append, -List.map_set, List.getElem?_cons_zero, List.getElem?_cons_succ, c1, c2]
    refine call_CC (h2.out) ?_
    simp -dsimp -implicitDefEqProofs [-getElem?_pos, -List.map_append, -List.map_set, List.getElem?_cons_zero, List.getElem?_cons_succ]
    refine call_CC (h3.out) ?_
    simp -dsimp -implicitDefEqProofs [-getElem?_pos, -List.map_append, -List.map_set, List.getElem?_cons_zero, List.getElem?_cons_succ]
    refine call_CC (h4.out) ?_
    simp -dsimp -implicitDefEqProofs [-getElem?_pos, -List.map_append, -List.map_set, List.getElem?_cons_zero, List.getElem?_cons_succ]
    refine call_CS (CS_inline (typesOk _) Tryz.func72 (fun _ _ => by kernel_rfl) rfl (by kernel_rfl) (Nat.le_of_ble_eq_true rfl) ?_)
    simp -dsimp -implicitDefEqProofs [-getElem?_pos, -List.map_append, -List.map_set, List.getElem?_cons_zero, List.getElem?_cons_succ, hi']
    exact ends_aai outL outL rfl

theorem cmd_facts {c : S.Cmd} (h : S.checkCmd c = 0) : 1 ≤ c.kind ∧ c.kind ≤ 12 ∧ 0 ≤ c.z ∧ c.z ≤ 999 ∧ 0 ≤ c.pos ∧ c.pos ≤ 999 ∧ 0 ≤ c.n ∧ c.n ≤ 999 ∧ c.d.length ≤ 8 ∧ (∀ x, x ∈ c.d → 0 ≤ x ∧ x ≤ 999) ∧ S.misused c = false := by
  unfold S.checkCmd at h
  split at h
  · cases h
  · rename_i g1
    split at h
    · cases h
    · rename_i g2
      split at h
      · cases h
      · rename_i g3
        split at h
        · cases h
        · rename_i g4
          simp [S.bad] at g4
          obtain ⟨a, b, c', d⟩ := g4
          refine ⟨by omega, by omega, by omega, by omega, by omega, by omega, by omega, by omega, by omega, fun x hx => ?_, by simpa using g2⟩
          have := d x hx
          omega

theorem desk_Do (d : S.Desk) (who : Int) (c : S.Cmd) : C Tryz.prog 41 [.agg (deskC false d), Int' who, .agg (cmdC false c)] (doR (S.doDesk d who c)) [] := by
  unfold S.doDesk
  by_cases h : S.checkDesk d = 0
  · rw [if_neg (by simp [h])]
    by_cases hw : who < 0 ∨ 3 ≤ who
    · rw [if_pos hw]
      exact desk_Do_bad2 d who c h hw
    · rw [if_neg hw]
      by_cases hc : S.checkCmd c = 0
      · rw [if_neg (by simp [hc])]
        have pre : Pre d who c := ⟨h, by omega, by omega, hc⟩
        obtain ⟨f1, f2, f3, -⟩ := cmd_facts hc
        obtain ⟨zs, b⟩ := d
        obtain ⟨k, z, n, p, dd⟩ := c
        simp only at f1 f2 f3
        unfold S.doneDesk S.onBook
        simp only
        by_cases hk : 8 ≤ k
        · rw [if_pos hk]
          rcases (by omega : k = 8 ∨ k = 9 ∨ k = 10 ∨ k = 11 ∨ k = 12) with rfl | rfl | rfl | rfl | rfl
          · simpa using desk_Do8 zs b who z n p dd pre
          · simpa using desk_Do9 zs b who z n p dd pre
          · simpa using desk_Do10 zs b who z n p dd pre
          · simpa using desk_Do11 zs b who z n p dd pre
          · simpa using desk_Do12 zs b who z n p dd pre
        · rw [if_neg hk]
          have := if h7 : k = 7 then h7 ▸ desk_Do7 zs b who z n p dd (h7 ▸ pre) f3 else desk_DoZ zs b who k z n p dd pre ⟨f1, by omega⟩ f3
          by_cases hm : S.might b who (!decide (k = 7)) = false
          · rw [if_pos hm] at this ⊢
            exact this
          · rw [if_neg hm] at this ⊢
            exact this
      · rw [if_pos hc]
        exact desk_Do_bad3 d who c h (by omega) hc
  · rw [if_pos h]
    exact desk_Do_bad1 d who c h

end Go.Proofs.YtallmebpmoaopaaGreatDoor.E
