
/- Po: law.StoryKeys. -/
import Derived.Test.YtginfkadmjikhaaGreatDoorPn
namespace Go.Proofs.YtginfkadmjikhaaGreatDoor.E
open Go.RowKit Go.Proofs
set_option linter.unusedVariables false
set_option linter.unusedSimpArgs false
set_option maxRecDepth 100000
set_option maxHeartbeats 2000000
theorem desk_book {d : S.Desk} (h : S.checkDesk d = 0) : S.checkBook d.b = 0 := by
  unfold S.checkDesk at h
  split at h
  · rename_i g; exact absurd h g
  · exact h
theorem keys_1 (w : S.World) (L : List S.Rec) (ho : Once w L) : C Tryz.prog 48 [.agg (worldC false w)] (Bool' true) [] := by
  have hr := ho.reach
  have c1 := hid (done_eq (reach_done hr))
  by_cases h0 : L = []
  · subst h0
    clear hr
    refine C_inline [] Tryz.func48 (fun _ _ => by kernel_rfl) rfl (by kernel_rfl) (by rfl) (by decide) (by rfl) (by rfl) (by rfl) ?_
    simp -dsimp -implicitDefEqProofs [-getElem?_pos, -List.map_append, -List.map_set, List.getElem?_cons_zero, List.getElem?_cons_succ]
    refine call_CC (c1.out) ?_
    simp -dsimp -implicitDefEqProofs [-getElem?_pos, -List.map_append, -List.map_set, List.getElem?_cons_zero, List.getElem?_cons_succ]
    exact ends_bool rfl
  obtain ⟨l, r, hL⟩ : ∃ l r, L = l ++ [r] := ⟨L.dropLast, L.getLast h0, (List.dropLast_concat_getLast h0).symm⟩
  obtain ⟨was, now, h1, h2, h3⟩ := story_keys (hL ▸ hr)
  have hrec := checkRec_parts (hr.ok.recs r (by rw [hL]; simp))
  obtain ⟨n, hn⟩ : ∃ n, l.length = n := ⟨_, rfl⟩
  have hLn : L.length = n + 1 := by rw [hL]; simp [hn]
  have hlt : L.take n = l := by rw [hL, ← hn]; simp
  have hLr : L[n]? = some r := by rw [hL, ← hn]; simp
  rw [← hlt] at h1
  rw [← hL] at h2
  have hb := desk_book (checkHall_parts (replay_right (S.replay_ok h1).2)).1
  have hready : S.ready was.d.b r.who = 0 := by
    unfold S.ready
    rw [if_neg (by simp [hb]), if_neg (by omega)]
  obtain ⟨mb, hmb⟩ : ∃ mb, S.might was.d.b r.who true = mb := ⟨_, rfl⟩
  have hmay : S.may was.d.b r.who true = (mb, 0) := by
    unfold S.may
    rw [if_neg (by simp [hready]), hmb]
  have c2 := hid (replay1_eq h1)
  have c3 := hid (replay1_eq h2)
  have c4 := hid (may_eq hmay)
  have ce := equal_zones_ref was.d.zs now.d.zs
  obtain ⟨zb, hzb⟩ : ∃ zb, decide (was.d.zs = now.d.zs) = zb := ⟨_, rfl⟩
  rw [hzb] at ce
  replace ce := hid ce
  have hl80 := hr.ok.l80
  have hw : IntKind.i64.wrap ((L.length : Int) - 1) = (n : Int) := by rw [wrap_ok (by omega)]; omega
  have hnl : n ≤ L.length := by omega
  have hd0 : decide (L.length = 0) = false := by simp [h0]
  have hd1 : decide (L = []) = false := by simp [h0]
  have hbz : mb = true ∨ (mb = false ∧ zb = true) := by
    rw [hmb] at h3
    cases mb with
    | true => exact .inl rfl
    | false => exact .inr ⟨rfl, by rw [← hzb]; rcases h3 with h | h; cases h; simp [h]⟩
  clear h1 h2 h3 hmay hready hb hmb hzb hr h0 hL hlt hLn hn
  rcases hbz with rfl | ⟨rfl, rfl⟩
  all_goals
    refine C_inline [] Tryz.func48 (fun _ _ => by kernel_rfl) rfl (by kernel_rfl) (by rfl) (by decide) (by rfl) (by rfl) (by rfl) ?_
    simp -dsimp -implicitDefEqProofs [-getElem?_pos, -List.map_append, -List.map_set, List.getElem?_cons_zero, List.getElem?_cons_succ]
    refine call_CC (c1.out) ?_
    simp -dsimp -implicitDefEqProofs [-getElem?_pos, -List.map_append, -List.map_set, List.getElem?_cons_zero, List.getElem?_cons_succ, hw, hnl, hd0, hd1]
    refine call_CC (c2.out) ?_
    simp -dsimp -implicitDefEqProofs [-getElem?_pos, -List.map_append, -List.map_set, List.getElem?_cons_zero, List.getElem?_cons_succ]
    refine call_CC (c3.out) ?_
    simp -dsimp -implicitDefEqProofs [-getElem?_pos, -List.map_append, -List.map_set, List.getElem?_cons_zero, List.getElem?_cons_succ, hw, hLr]
    refine call_CC (c4.out) ?_
    simp -dsimp -implicitDefEqProofs [-getElem?_pos, -List.map_append, -List.map_set, List.getElem?_cons_zero, List.getElem?_cons_succ]
    first | exact ends_bool rfl | skip
  refine call_CC (ce.out) ?_
  simp -dsimp -implicitDefEqProofs [-getElem?_pos, -List.map_append, -List.map_set, List.getElem?_cons_zero, List.getElem?_cons_succ]
  exact ends_bool rfl
theorem law_StoryKeys (l : List S.Hap) : C Tryz.prog 11 [.lst false 8 (l.map (hapC false))] (Bool' true) [] := by
  have cp := hid (law_played l 48 keys_1)
  refine C_inline [] Tryz.func11 (fun _ _ => by kernel_rfl) rfl (by kernel_rfl) (by rfl) (by decide) (by rfl) (by rfl) (by rfl) ?_
  simp -dsimp -implicitDefEqProofs [-getElem?_pos, -List.map_append, -List.map_set, List.getElem?_cons_zero, List.getElem?_cons_succ]
  refine call_CC (cp.out) ?_
  simp -dsimp -implicitDefEqProofs [-getElem?_pos, -List.map_append, -List.map_set, List.getElem?_cons_zero, List.getElem?_cons_succ]
  refine call_CC (law_told) ?_
  simp -dsimp -implicitDefEqProofs [-getElem?_pos, -List.map_append, -List.map_set, List.getElem?_cons_zero, List.getElem?_cons_succ]
  exact ends_bool rfl
end Go.Proofs.YtginfkadmjikhaaGreatDoor.E
