/- De: law.served, law.DeskMay, law.DeskReads. -/
import Derived.Test.YtdjdjnmccphbjaaDd
import Derived.Test.YtdjdjnmccphbjaaHe
namespace Go.Proofs.Ytdjdjnmccphbjaa.E
open Go.RowKit Go.Proofs
set_option maxRecDepth 100000
set_option maxHeartbeats 1000000
set_option linter.unusedSimpArgs false
set_option linter.unusedVariables false

theorem do_eq {d : S.Desk} {who : Int} {c : S.Cmd} {r : S.Desk × S.Answer × Int} (e : S.doDesk d who c = r) : C Try.prog 65 [.agg (deskC false d), Int' who, .agg (cmdC false c)] (doR r) [] := e ▸ desk_Do d who c
/-- a command without data -/
theorem sub_cmdN {k z n p : Int} : SubA (.agg [Int' k, Int' z, Int' n, Int' p, .nl]) (.agg (cmdC false ⟨k, z, n, p, []⟩)) := .agg (.cons (.refl _) (.cons (.refl _) (.cons (.refl _) (.cons (.refl _) (.cons .nl (.nil _))))))
theorem doN_eq {d : S.Desk} {who k z n p : Int} {r : S.Desk × S.Answer × Int} (e : S.doDesk d who ⟨k, z, n, p, []⟩ = r) : C Try.prog 65 [.agg (deskC false d), Int' who, .agg [Int' k, Int' z, Int' n, Int' p, .nl]] (doR r) [] :=
  (do_eq e).args (.cons (.refl _) (.cons (.refl _) (.cons sub_cmdN (.nil _))))

abbrev DK1 : S.Desk := ⟨[S.Zone.zero, ⟨1, [5, 6]⟩, S.Zone.zero, S.Zone.zero], S.Book.new⟩
abbrev DK2 : S.Desk := ⟨[S.Zone.zero, ⟨1, [5, 6, 7]⟩, S.Zone.zero, S.Zone.zero], S.Book.new⟩

theorem law_served : C Try.prog 66 [] (Bool' true) [] := by
  have c1 := hid (do_eq (d := S.Desk.new) (who := 0) (c := ⟨5, 1, 0, 0, [5, 6]⟩) (r := (DK1, ⟨0, 0, []⟩, 0)) (by decide))
  have c2 := hid (do_eq (d := DK1) (who := 1) (c := ⟨5, 1, 0, 0, [7]⟩) (r := (DK2, ⟨0, 2, []⟩, 0)) (by decide))
  have c3 := hid (doN_eq (d := DK2) (who := 2) (k := 7) (z := 1) (n := 2) (p := 1) (r := (DK2, ⟨0, 0, [6, 7]⟩, 0)) (by decide))
  have c4 := hid (do_eq (d := DK2) (who := 2) (c := ⟨6, 1, 0, 2, [1]⟩) (r := (DK2, ⟨6, 0, []⟩, 0)) (by decide))
  have c5 := hid (doN_eq (d := DK2) (who := 2) (k := 9) (z := 0) (n := 1) (p := 0) (r := (DK2, ⟨8, 0, []⟩, 0)) (by decide))
  refine C_inline [] Try.func66 (fun _ _ => by kernel_rfl) rfl (by kernel_rfl) (by rfl) (by decide) (by rfl) (by rfl) (by rfl) ?_
  simp -dsimp -implicitDefEqProofs [-getElem?_pos, -List.map_append, -List.map_set, List.getElem?_cons_zero, List.getElem?_cons_succ]
  refine call_CC (desk_New) ?_
  simp -dsimp -implicitDefEqProofs [-getElem?_pos, -List.map_append, -List.map_set, List.getElem?_cons_zero, List.getElem?_cons_succ]
  refine call_CC (c1.out) ?_
  simp -dsimp -implicitDefEqProofs [-getElem?_pos, -List.map_append, -List.map_set, List.getElem?_cons_zero, List.getElem?_cons_succ]
  refine call_CC (c2.out) ?_
  simp -dsimp -implicitDefEqProofs [-getElem?_pos, -List.map_append, -List.map_set, List.getElem?_cons_zero, List.getElem?_cons_succ]
  refine call_CC (c3.out) ?_
  simp -dsimp -implicitDefEqProofs [-getElem?_pos, -List.map_append, -List.map_set, List.getElem?_cons_zero, List.getElem?_cons_succ]
  refine call_CC (c4.out) ?_
  simp -dsimp -implicitDefEqProofs [-getElem?_pos, -List.map_append, -List.map_set, List.getElem?_cons_zero, List.getElem?_cons_succ]
  refine call_CC (c5.out) ?_
  simp -dsimp -implicitDefEqProofs [-getElem?_pos, -List.map_append, -List.map_set, List.getElem?_cons_zero, List.getElem?_cons_succ]
  refine call_CC (int_equal [6, 7] [6, 7]) ?_
  simp -dsimp -implicitDefEqProofs [-getElem?_pos, -List.map_append, -List.map_set, List.getElem?_cons_zero, List.getElem?_cons_succ]
  refine call_CC ((by decide : S.checkDesk DK2 = 0) ▸ desk_Check DK2) ?_
  simp -dsimp -implicitDefEqProofs [-getElem?_pos, -List.map_append, -List.map_set, List.getElem?_cons_zero, List.getElem?_cons_succ]
  refine call_CC ((by decide : S.checkAnswer ⟨0, 0, [6, 7]⟩ = 0) ▸ desk_CheckAnswer ⟨0, 0, [6, 7]⟩) ?_
  simp -dsimp -implicitDefEqProofs [-getElem?_pos, -List.map_append, -List.map_set, List.getElem?_cons_zero, List.getElem?_cons_succ]
  refine call_CC (desk_Same DK2 DK2) ?_
  simp -dsimp -implicitDefEqProofs [-getElem?_pos, -List.map_append, -List.map_set, List.getElem?_cons_zero, List.getElem?_cons_succ]
  exact ends_bool (by simp)


theorem read_done {m : S.Desk} {zs : List S.Zone} {rd : Int} {c : S.Cmd} {a : S.Answer} (hm : S.checkDesk m = 0) (hr : 0 ≤ rd ∧ rd < 3) (hc : S.checkCmd c = 0) (hk : c.kind = 5 ∨ c.kind = 6) (hl : Left zs c m.zs a) :
    S.doDesk m rd ⟨7, c.z, c.d.length, a.pos, []⟩ = (m, if S.might m.b rd false = true then ⟨0, 0, c.d⟩ else ⟨8, 0, []⟩, 0) := by
  obtain ⟨n, x, y, hz, hx, hy, hd, hp, h1⟩ := hl.wrote hk
  have hyc := (checkZones_parts hl.ok).2.1 y (List.mem_of_getElem? hy)
  have hl8 := checkZone_len hyc
  rw [hd] at hl8
  simp at hl8
  obtain ⟨n', hz', hn'⟩ := hl.zone
  have hlen := (checkZones_parts hl.ok).1
  have hcc : S.checkCmd ⟨7, c.z, c.d.length, a.pos, []⟩ = 0 := by
    unfold S.checkCmd
    rw [if_neg (by simp), if_neg (by simp [S.misused, S.uZ, S.uA, S.uN, S.uD]), if_neg (by simp), if_neg ?_]
    simp [S.bad]
    omega
  rw [do_of ⟨hm, hr.1, hr.2, hcc⟩]
  unfold S.doneDesk
  simp only [show ¬ (8 : Int) ≤ 7 by omega, if_false, decide_true, Bool.not_true]
  cases hmt : S.might m.b rd false with
  | false => simp
  | true =>
    have e : S.deskZones m.zs ⟨7, c.z, c.d.length, a.pos, []⟩ = (m.zs, ⟨0, 0, c.d⟩) := by
      unfold S.deskZones
      simp only
      rw [if_neg (by simp), if_neg (by simp), if_neg (by simp), if_neg (by simp), if_neg (by simp), if_neg (by simp), if_neg (by omega)]
      simp only [hz, Int.toNat_natCast, getD_of hy, hp]
      rw [read_back hyc hd]
    rw [e]
    simp

theorem law_DeskMay (d : S.Desk) (who : Int) (c : S.Cmd) (reader : Int) : C Try.prog 14 [.agg (deskC false d), Int' who, .agg (cmdC false c), Int' reader] (Bool' true) [] := by
  have cat1 := at_law who 3 (by omega)
  have cat2 := at_law reader 3 (by omega)
  have hw : 0 ≤ who % 3 ∧ who % 3 < 3 := by omega
  have hr : 0 ≤ reader % 3 ∧ reader % 3 < 3 := by omega
  generalize who % 3 = w at *
  generalize reader % 3 = rd at *
  replace cat1 := hid cat1
  replace cat2 := hid cat2
  obtain ⟨r, hdo⟩ : ∃ r, S.doDesk d w c = r := ⟨_, rfl⟩
  have cdo := hid (do_eq hdo)
  by_cases he : r.2.2 = 0
  rotate_left
  · clear hw hr hdo
    refine C_inline [] Try.func14 (fun _ _ => by kernel_rfl) rfl (by kernel_rfl) (by rfl) (by decide) (by rfl) (by rfl) (by rfl) ?_
    simp -dsimp -implicitDefEqProofs [-getElem?_pos, -List.map_append, -List.map_set, List.getElem?_cons_zero, List.getElem?_cons_succ]
    refine call_CC (cat1.out) ?_
    simp -dsimp -implicitDefEqProofs [-getElem?_pos, -List.map_append, -List.map_set, List.getElem?_cons_zero, List.getElem?_cons_succ]
    refine call_CC (cat2.out) ?_
    simp -dsimp -implicitDefEqProofs [-getElem?_pos, -List.map_append, -List.map_set, List.getElem?_cons_zero, List.getElem?_cons_succ]
    refine call_CC (cdo.out) ?_
    simp -dsimp -implicitDefEqProofs [-getElem?_pos, -List.map_append, -List.map_set, List.getElem?_cons_zero, List.getElem?_cons_succ]
    refine call_CC (law_served) ?_
    simp -dsimp -implicitDefEqProofs [-getElem?_pos, -List.map_append, -List.map_set, List.getElem?_cons_zero, List.getElem?_cons_succ, he]
    refine call_CC (law_served) ?_
    simp -dsimp -implicitDefEqProofs [-getElem?_pos, -List.map_append, -List.map_set, List.getElem?_cons_zero, List.getElem?_cons_succ]
    exact ends_bool rfl
  have he' : (S.doDesk d w c).2.2 = 0 := by rw [hdo]; exact he
  obtain ⟨pre, hdd⟩ := do_ok he'
  have did := done_did pre
  have er : r = ((S.doneDesk d w c).1, (S.doneDesk d w c).2, 0) := by rw [← hdo]; exact hdd
  generalize S.doneDesk d w c = q at *
  obtain ⟨m, a⟩ := q
  subst er
  simp only at did
  have hcd := did.ok
  have hca := did.ans
  have cmay := book_May d.b w true
  rw [show S.may d.b w true = (S.might d.b w true, 0) by unfold S.may; rw [if_neg (by simp [ready_who (small_of pre.d0).2.2 hw])]] at cmay
  have hmt := did.might
  generalize S.might d.b w true = mt at *
  replace cmay := hid cmay
  have cm := hid (hcd ▸ desk_Check m)
  have ca := hid (hca ▸ desk_CheckAnswer a)
  have l1 := did.left
  have hcc := pre.c0
  have hm0 := hcd
  have sameNot := did.same
  clear did hdo hdd he' he pre hcd hca
  obtain ⟨ae, ap, ad⟩ := a
  simp only at l1 sameNot
  by_cases hae : ae = 0
  rotate_left
  · have hs := sameNot hae
    subst hs
    clear hmt l1 sameNot hcc hm0
    cases mt
    · refine C_inline [] Try.func14 (fun _ _ => by kernel_rfl) rfl (by kernel_rfl) (by rfl) (by decide) (by rfl) (by rfl) (by rfl) ?_
      simp -dsimp -implicitDefEqProofs [-getElem?_pos, -List.map_append, -List.map_set, List.getElem?_cons_zero, List.getElem?_cons_succ]
      refine call_CC (cat1.out) ?_
      simp -dsimp -implicitDefEqProofs [-getElem?_pos, -List.map_append, -List.map_set, List.getElem?_cons_zero, List.getElem?_cons_succ]
      refine call_CC (cat2.out) ?_
      simp -dsimp -implicitDefEqProofs [-getElem?_pos, -List.map_append, -List.map_set, List.getElem?_cons_zero, List.getElem?_cons_succ]
      refine call_CC (cdo.out) ?_
      simp -dsimp -implicitDefEqProofs [-getElem?_pos, -List.map_append, -List.map_set, List.getElem?_cons_zero, List.getElem?_cons_succ]
      refine call_CC (law_served) ?_
      simp -dsimp -implicitDefEqProofs [-getElem?_pos, -List.map_append, -List.map_set, List.getElem?_cons_zero, List.getElem?_cons_succ]
      refine call_CC (cm.out) ?_
      simp -dsimp -implicitDefEqProofs [-getElem?_pos, -List.map_append, -List.map_set, List.getElem?_cons_zero, List.getElem?_cons_succ]
      refine call_CC (ca.out) ?_
      simp -dsimp -implicitDefEqProofs [-getElem?_pos, -List.map_append, -List.map_set, List.getElem?_cons_zero, List.getElem?_cons_succ, hae]
      refine call_CC (desk_Same m m) ?_
      simp -dsimp -implicitDefEqProofs [-getElem?_pos, -List.map_append, -List.map_set, List.getElem?_cons_zero, List.getElem?_cons_succ]
      refine call_CC (cmay.out) ?_
      simp -dsimp -implicitDefEqProofs [-getElem?_pos, -List.map_append, -List.map_set, List.getElem?_cons_zero, List.getElem?_cons_succ]
      refine call_CC (yard_Same m.zs m.zs) ?_
      simp -dsimp -implicitDefEqProofs [-getElem?_pos, -List.map_append, -List.map_set, List.getElem?_cons_zero, List.getElem?_cons_succ, hae]
      exact ends_bool rfl
    · refine C_inline [] Try.func14 (fun _ _ => by kernel_rfl) rfl (by kernel_rfl) (by rfl) (by decide) (by rfl) (by rfl) (by rfl) ?_
      simp -dsimp -implicitDefEqProofs [-getElem?_pos, -List.map_append, -List.map_set, List.getElem?_cons_zero, List.getElem?_cons_succ]
      refine call_CC (cat1.out) ?_
      simp -dsimp -implicitDefEqProofs [-getElem?_pos, -List.map_append, -List.map_set, List.getElem?_cons_zero, List.getElem?_cons_succ]
      refine call_CC (cat2.out) ?_
      simp -dsimp -implicitDefEqProofs [-getElem?_pos, -List.map_append, -List.map_set, List.getElem?_cons_zero, List.getElem?_cons_succ]
      refine call_CC (cdo.out) ?_
      simp -dsimp -implicitDefEqProofs [-getElem?_pos, -List.map_append, -List.map_set, List.getElem?_cons_zero, List.getElem?_cons_succ]
      refine call_CC (law_served) ?_
      simp -dsimp -implicitDefEqProofs [-getElem?_pos, -List.map_append, -List.map_set, List.getElem?_cons_zero, List.getElem?_cons_succ]
      refine call_CC (cm.out) ?_
      simp -dsimp -implicitDefEqProofs [-getElem?_pos, -List.map_append, -List.map_set, List.getElem?_cons_zero, List.getElem?_cons_succ]
      refine call_CC (ca.out) ?_
      simp -dsimp -implicitDefEqProofs [-getElem?_pos, -List.map_append, -List.map_set, List.getElem?_cons_zero, List.getElem?_cons_succ, hae]
      refine call_CC (desk_Same m m) ?_
      simp -dsimp -implicitDefEqProofs [-getElem?_pos, -List.map_append, -List.map_set, List.getElem?_cons_zero, List.getElem?_cons_succ]
      refine call_CC (cmay.out) ?_
      simp -dsimp -implicitDefEqProofs [-getElem?_pos, -List.map_append, -List.map_set, List.getElem?_cons_zero, List.getElem?_cons_succ, hae]
      exact ends_bool rfl
  subst hae
  by_cases hk : c.kind = 5 ∨ c.kind = 6
  rotate_left
  · have k5 : ¬ c.kind = 5 := fun h => hk (.inl h)
    have k6 : ¬ c.kind = 6 := fun h => hk (.inr h)
    clear hk l1 sameNot hcc hm0
    cases mt
    · have hz := hmt rfl
      refine C_inline [] Try.func14 (fun _ _ => by kernel_rfl) rfl (by kernel_rfl) (by rfl) (by decide) (by rfl) (by rfl) (by rfl) ?_
      simp -dsimp -implicitDefEqProofs [-getElem?_pos, -List.map_append, -List.map_set, List.getElem?_cons_zero, List.getElem?_cons_succ]
      refine call_CC (cat1.out) ?_
      simp -dsimp -implicitDefEqProofs [-getElem?_pos, -List.map_append, -List.map_set, List.getElem?_cons_zero, List.getElem?_cons_succ]
      refine call_CC (cat2.out) ?_
      simp -dsimp -implicitDefEqProofs [-getElem?_pos, -List.map_append, -List.map_set, List.getElem?_cons_zero, List.getElem?_cons_succ]
      refine call_CC (cdo.out) ?_
      simp -dsimp -implicitDefEqProofs [-getElem?_pos, -List.map_append, -List.map_set, List.getElem?_cons_zero, List.getElem?_cons_succ]
      refine call_CC (law_served) ?_
      simp -dsimp -implicitDefEqProofs [-getElem?_pos, -List.map_append, -List.map_set, List.getElem?_cons_zero, List.getElem?_cons_succ]
      refine call_CC (cm.out) ?_
      simp -dsimp -implicitDefEqProofs [-getElem?_pos, -List.map_append, -List.map_set, List.getElem?_cons_zero, List.getElem?_cons_succ]
      refine call_CC (ca.out) ?_
      simp -dsimp -implicitDefEqProofs [-getElem?_pos, -List.map_append, -List.map_set, List.getElem?_cons_zero, List.getElem?_cons_succ]
      refine call_CC (cmay.out) ?_
      simp -dsimp -implicitDefEqProofs [-getElem?_pos, -List.map_append, -List.map_set, List.getElem?_cons_zero, List.getElem?_cons_succ]
      refine call_CC (yard_Same m.zs d.zs) ?_
      simp -dsimp -implicitDefEqProofs [-getElem?_pos, -List.map_append, -List.map_set, List.getElem?_cons_zero, List.getElem?_cons_succ, hz, k5, k6]
      exact ends_bool rfl
    · refine C_inline [] Try.func14 (fun _ _ => by kernel_rfl) rfl (by kernel_rfl) (by rfl) (by decide) (by rfl) (by rfl) (by rfl) ?_
      simp -dsimp -implicitDefEqProofs [-getElem?_pos, -List.map_append, -List.map_set, List.getElem?_cons_zero, List.getElem?_cons_succ]
      refine call_CC (cat1.out) ?_
      simp -dsimp -implicitDefEqProofs [-getElem?_pos, -List.map_append, -List.map_set, List.getElem?_cons_zero, List.getElem?_cons_succ]
      refine call_CC (cat2.out) ?_
      simp -dsimp -implicitDefEqProofs [-getElem?_pos, -List.map_append, -List.map_set, List.getElem?_cons_zero, List.getElem?_cons_succ]
      refine call_CC (cdo.out) ?_
      simp -dsimp -implicitDefEqProofs [-getElem?_pos, -List.map_append, -List.map_set, List.getElem?_cons_zero, List.getElem?_cons_succ]
      refine call_CC (law_served) ?_
      simp -dsimp -implicitDefEqProofs [-getElem?_pos, -List.map_append, -List.map_set, List.getElem?_cons_zero, List.getElem?_cons_succ]
      refine call_CC (cm.out) ?_
      simp -dsimp -implicitDefEqProofs [-getElem?_pos, -List.map_append, -List.map_set, List.getElem?_cons_zero, List.getElem?_cons_succ]
      refine call_CC (ca.out) ?_
      simp -dsimp -implicitDefEqProofs [-getElem?_pos, -List.map_append, -List.map_set, List.getElem?_cons_zero, List.getElem?_cons_succ]
      refine call_CC (cmay.out) ?_
      simp -dsimp -implicitDefEqProofs [-getElem?_pos, -List.map_append, -List.map_set, List.getElem?_cons_zero, List.getElem?_cons_succ, k5, k6]
      exact ends_bool rfl
  have cz : mt = false → C Try.prog 58 [.lst false 2 (m.zs.map (zoneC false)), .lst false 2 (d.zs.map (zoneC false))] (Bool' true) [] := fun h => by
    have := yard_Same m.zs d.zs
    rw [show decide (m.zs = d.zs) = true by simp [hmt h]] at this
    exact this
  clear hmt
  have l2 := l1 rfl (by omega)
  have cread := hid (doN_eq (read_done hm0 hr hcc hk l2))
  have cmay2 := book_May m.b rd false
  rw [show S.may m.b rd false = (S.might m.b rd false, 0) by unfold S.may; rw [if_neg (by simp [ready_who (small_of hm0).2.2 hr])]] at cmay2
  generalize S.might m.b rd false = mr at *
  replace cmay2 := hid cmay2
  clear l1 l2 sameNot hcc hm0 hr hw
  obtain ⟨ck, cz, cn, cp, cd⟩ := c
  simp only at hk cread
  cases mr
  all_goals
    simp only [if_true, if_false, Bool.false_eq_true] at cread
    replace cread := hid cread.out
    cases mt
    all_goals
      first | replace cz := hid (cz rfl) | clear cz
      rcases hk with rfl | rfl
      all_goals
        refine C_inline [] Try.func14 (fun _ _ => by kernel_rfl) rfl (by kernel_rfl) (by rfl) (by decide) (by rfl) (by rfl) (by rfl) ?_
        simp -dsimp -implicitDefEqProofs [-getElem?_pos, -List.map_append, -List.map_set, List.getElem?_cons_zero, List.getElem?_cons_succ]
        refine call_CC (cat1.out) ?_
        simp -dsimp -implicitDefEqProofs [-getElem?_pos, -List.map_append, -List.map_set, List.getElem?_cons_zero, List.getElem?_cons_succ]
        refine call_CC (cat2.out) ?_
        simp -dsimp -implicitDefEqProofs [-getElem?_pos, -List.map_append, -List.map_set, List.getElem?_cons_zero, List.getElem?_cons_succ]
        refine call_CC (cdo.out) ?_
        simp -dsimp -implicitDefEqProofs [-getElem?_pos, -List.map_append, -List.map_set, List.getElem?_cons_zero, List.getElem?_cons_succ]
        refine call_CC (law_served) ?_
        simp -dsimp -implicitDefEqProofs [-getElem?_pos, -List.map_append, -List.map_set, List.getElem?_cons_zero, List.getElem?_cons_succ]
        refine call_CC (cm.out) ?_
        simp -dsimp -implicitDefEqProofs [-getElem?_pos, -List.map_append, -List.map_set, List.getElem?_cons_zero, List.getElem?_cons_succ]
        refine call_CC (ca.out) ?_
        simp -dsimp -implicitDefEqProofs [-getElem?_pos, -List.map_append, -List.map_set, List.getElem?_cons_zero, List.getElem?_cons_succ]
        refine call_CC (cmay.out) ?_
        simp -dsimp -implicitDefEqProofs [-getElem?_pos, -List.map_append, -List.map_set, List.getElem?_cons_zero, List.getElem?_cons_succ]
        try (refine call_CC (cz.out) ?_)
        try simp -dsimp -implicitDefEqProofs [-getElem?_pos, -List.map_append, -List.map_set, List.getElem?_cons_zero, List.getElem?_cons_succ]
        refine call_CC (cread.out) ?_
        simp -dsimp -implicitDefEqProofs [-getElem?_pos, -List.map_append, -List.map_set, List.getElem?_cons_zero, List.getElem?_cons_succ]
        refine call_CC (cmay2.out) ?_
        simp -dsimp -implicitDefEqProofs [-getElem?_pos, -List.map_append, -List.map_set, List.getElem?_cons_zero, List.getElem?_cons_succ]
        refine call_CC (desk_Same m m) ?_
        simp -dsimp -implicitDefEqProofs [-getElem?_pos, -List.map_append, -List.map_set, List.getElem?_cons_zero, List.getElem?_cons_succ]
        first
          | exact ends_bool rfl
          | (refine call_CC (int_equal cd cd) ?_
             simp -dsimp -implicitDefEqProofs [-getElem?_pos, -List.map_append, -List.map_set, List.getElem?_cons_zero, List.getElem?_cons_succ]
             exact ends_bool rfl)


theorem read_same {d : S.Desk} {w : Int} {c : S.Cmd} (h : Pre d w c) (hk : c.kind = 7) : (S.doneDesk d w c).1 = d ∧ ((S.doneDesk d w c).2.e = 8 ∨ (S.doneDesk d w c).2 = (S.deskZones d.zs c).2) := by
  obtain ⟨sm, hz, hb⟩ := small_of h.d0
  unfold S.doneDesk
  simp only [if_neg (show ¬ 8 ≤ c.kind by omega)]
  by_cases hm : S.might d.b w (!decide (c.kind = 7)) = false
  · simp only [if_pos hm]
    exact ⟨trivial, .inl trivial⟩
  · simp only [if_neg hm]
    obtain ⟨a1, a2⟩ := deskZones_ok hz h.c0 (by omega)
    refine ⟨?_, .inr trivial⟩
    split
    · rename_i g
      rw [(a2 g).read hk]
    · rfl

theorem law_DeskReads (d : S.Desk) (a b k from_ n : Int) : C Try.prog 15 [.agg (deskC false d), Int' a, Int' b, Int' k, Int' from_, Int' n] (Bool' true) [] := by
  have t1 := at_law a 3 (by omega)
  have t2 := at_law b 3 (by omega)
  have t3 := at_law k 4 (by omega)
  have t4 := at_law from_ 9 (by omega)
  have t5 := at_law n 9 (by omega)
  have h1 : 0 ≤ a % 3 ∧ a % 3 < 3 := by omega
  have h2 : 0 ≤ b % 3 ∧ b % 3 < 3 := by omega
  have h3 : 0 ≤ k % 4 ∧ k % 4 < 4 := by omega
  have h4 : 0 ≤ from_ % 9 ∧ from_ % 9 < 9 := by omega
  have h5 : 0 ≤ n % 9 ∧ n % 9 < 9 := by omega
  generalize a % 3 = w1 at *
  generalize b % 3 = w2 at *
  generalize k % 4 = z at *
  generalize from_ % 9 = p at *
  generalize n % 9 = m at *
  replace t1 := hid t1
  replace t2 := hid t2
  replace t3 := hid t3
  replace t4 := hid t4
  replace t5 := hid t5
  have hcc : S.checkCmd ⟨7, z, m, p, []⟩ = 0 := by
    unfold S.checkCmd
    rw [if_neg (by simp), if_neg (by simp [S.misused, S.uZ, S.uA, S.uN, S.uD]), if_neg (by simp), if_neg ?_]
    simp [S.bad]
    omega
  by_cases hd : S.checkDesk d = 0
  rotate_left
  · have e1 : S.doDesk d w1 ⟨7, z, m, p, []⟩ = (S.Desk.zero, S.Answer.zero, S.checkDesk d) := by unfold S.doDesk; rw [if_pos hd]
    have e2 : S.doDesk d w2 ⟨7, z, m, p, []⟩ = (S.Desk.zero, S.Answer.zero, S.checkDesk d) := by unfold S.doDesk; rw [if_pos hd]
    have c1 := hid (doN_eq e1)
    have c2 := hid (doN_eq e2)
    clear e1 e2 h1 h2 h3 h4 h5 hcc
    generalize S.checkDesk d = e at *
    refine C_inline [] Try.func15 (fun _ _ => by kernel_rfl) rfl (by kernel_rfl) (by rfl) (by decide) (by rfl) (by rfl) (by rfl) ?_
    simp -dsimp -implicitDefEqProofs [-getElem?_pos, -List.map_append, -List.map_set, List.getElem?_cons_zero, List.getElem?_cons_succ]
    refine call_CC (t1.out) ?_
    simp -dsimp -implicitDefEqProofs [-getElem?_pos, -List.map_append, -List.map_set, List.getElem?_cons_zero, List.getElem?_cons_succ]
    refine call_CC (t2.out) ?_
    simp -dsimp -implicitDefEqProofs [-getElem?_pos, -List.map_append, -List.map_set, List.getElem?_cons_zero, List.getElem?_cons_succ]
    refine call_CC (t3.out) ?_
    simp -dsimp -implicitDefEqProofs [-getElem?_pos, -List.map_append, -List.map_set, List.getElem?_cons_zero, List.getElem?_cons_succ]
    refine call_CC (t4.out) ?_
    simp -dsimp -implicitDefEqProofs [-getElem?_pos, -List.map_append, -List.map_set, List.getElem?_cons_zero, List.getElem?_cons_succ]
    refine call_CC (t5.out) ?_
    simp -dsimp -implicitDefEqProofs [-getElem?_pos, -List.map_append, -List.map_set, List.getElem?_cons_zero, List.getElem?_cons_succ]
    refine call_CC (c1.out) ?_
    simp -dsimp -implicitDefEqProofs [-getElem?_pos, -List.map_append, -List.map_set, List.getElem?_cons_zero, List.getElem?_cons_succ]
    refine call_CC (c2.out) ?_
    simp -dsimp -implicitDefEqProofs [-getElem?_pos, -List.map_append, -List.map_set, List.getElem?_cons_zero, List.getElem?_cons_succ]
    refine call_CC (law_served) ?_
    simp -dsimp -implicitDefEqProofs [-getElem?_pos, -List.map_append, -List.map_set, List.getElem?_cons_zero, List.getElem?_cons_succ, hd]
    refine call_CC (law_served) ?_
    simp -dsimp -implicitDefEqProofs [-getElem?_pos, -List.map_append, -List.map_set, List.getElem?_cons_zero, List.getElem?_cons_succ]
    exact ends_bool rfl
  have p1 : Pre d w1 ⟨7, z, m, p, []⟩ := ⟨hd, h1.1, h1.2, hcc⟩
  have p2 : Pre d w2 ⟨7, z, m, p, []⟩ := ⟨hd, h2.1, h2.2, hcc⟩
  obtain ⟨r1, r2⟩ := read_same p1 rfl
  obtain ⟨q1, q2⟩ := read_same p2 rfl
  have e1 := do_of p1
  have e2 := do_of p2
  rw [r1] at e1
  rw [q1] at e2
  generalize (S.doneDesk d w1 ⟨7, z, m, p, []⟩).2 = s at *
  generalize (S.doneDesk d w2 ⟨7, z, m, p, []⟩).2 = t at *
  generalize (S.deskZones d.zs ⟨7, z, m, p, []⟩).2 = u at *
  have c1 := hid (doN_eq e1)
  have c2 := hid (doN_eq e2)
  clear e1 e2 h1 h2 h3 h4 h5 hcc hd p1 p2 r1 q1
  have cs : s.e = 8 ∨ (¬ s.e = 8 ∧ t.e = 8) ∨ (¬ s.e = 8 ∧ ¬ t.e = 8 ∧ s = t) := by
    by_cases g1 : s.e = 8
    · exact .inl g1
    · by_cases g2 : t.e = 8
      · exact .inr (.inl ⟨g1, g2⟩)
      · exact .inr (.inr ⟨g1, g2, (r2.resolve_left g1).trans (q2.resolve_left g2).symm⟩)
  clear r2 q2
  rcases cs with g1 | ⟨g1, g2⟩ | ⟨g1, g2, rfl⟩
  all_goals
    refine C_inline [] Try.func15 (fun _ _ => by kernel_rfl) rfl (by kernel_rfl) (by rfl) (by decide) (by rfl) (by rfl) (by rfl) ?_
    simp -dsimp -implicitDefEqProofs [-getElem?_pos, -List.map_append, -List.map_set, List.getElem?_cons_zero, List.getElem?_cons_succ]
    refine call_CC (t1.out) ?_
    simp -dsimp -implicitDefEqProofs [-getElem?_pos, -List.map_append, -List.map_set, List.getElem?_cons_zero, List.getElem?_cons_succ]
    refine call_CC (t2.out) ?_
    simp -dsimp -implicitDefEqProofs [-getElem?_pos, -List.map_append, -List.map_set, List.getElem?_cons_zero, List.getElem?_cons_succ]
    refine call_CC (t3.out) ?_
    simp -dsimp -implicitDefEqProofs [-getElem?_pos, -List.map_append, -List.map_set, List.getElem?_cons_zero, List.getElem?_cons_succ]
    refine call_CC (t4.out) ?_
    simp -dsimp -implicitDefEqProofs [-getElem?_pos, -List.map_append, -List.map_set, List.getElem?_cons_zero, List.getElem?_cons_succ]
    refine call_CC (t5.out) ?_
    simp -dsimp -implicitDefEqProofs [-getElem?_pos, -List.map_append, -List.map_set, List.getElem?_cons_zero, List.getElem?_cons_succ]
    refine call_CC (c1.out) ?_
    simp -dsimp -implicitDefEqProofs [-getElem?_pos, -List.map_append, -List.map_set, List.getElem?_cons_zero, List.getElem?_cons_succ]
    refine call_CC (c2.out) ?_
    simp -dsimp -implicitDefEqProofs [-getElem?_pos, -List.map_append, -List.map_set, List.getElem?_cons_zero, List.getElem?_cons_succ]
    refine call_CC (law_served) ?_
    simp -dsimp -implicitDefEqProofs [-getElem?_pos, -List.map_append, -List.map_set, List.getElem?_cons_zero, List.getElem?_cons_succ]
    refine call_CC (desk_Same d d) ?_
    simp -dsimp -implicitDefEqProofs [-getElem?_pos, -List.map_append, -List.map_set, List.getElem?_cons_zero, List.getElem?_cons_succ]
    refine call_CC (desk_Same d d) ?_
  · simp -dsimp -implicitDefEqProofs [-getElem?_pos, -List.map_append, -List.map_set, List.getElem?_cons_zero, List.getElem?_cons_succ, g1]
    exact ends_bool rfl
  · simp -dsimp -implicitDefEqProofs [-getElem?_pos, -List.map_append, -List.map_set, List.getElem?_cons_zero, List.getElem?_cons_succ, g1, g2]
    exact ends_bool rfl
  · simp -dsimp -implicitDefEqProofs [-getElem?_pos, -List.map_append, -List.map_set, List.getElem?_cons_zero, List.getElem?_cons_succ, g1, g2]
    refine call_CC (law_sameAnswer s s) ?_
    simp -dsimp -implicitDefEqProofs [-getElem?_pos, -List.map_append, -List.map_set, List.getElem?_cons_zero, List.getElem?_cons_succ]
    exact ends_bool rfl

end Go.Proofs.Ytdjdjnmccphbjaa.E
