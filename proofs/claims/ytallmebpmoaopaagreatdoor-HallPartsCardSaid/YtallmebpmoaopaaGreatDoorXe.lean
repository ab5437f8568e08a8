
/- Xe: law.HallParts. -/
import Derived.Test.YtallmebpmoaopaaGreatDoorQ1
import Derived.Test.YtallmebpmoaopaaGreatDoorK1
import Derived.Test.YtallmebpmoaopaaGreatDoorSq
namespace Go.Proofs.YtallmebpmoaopaaGreatDoor.E
open Go.RowKit Go.Proofs
set_option linter.unusedVariables false
set_option linter.unusedSimpArgs false
set_option maxRecDepth 100000
set_option maxHeartbeats 2000000

theorem replay_eq {l : List S.Rec} {w : S.Hall} {e : Int} (h : S.replay l = (w, e)) : C Tryz.prog 19 [.lst false 7 (l.map (recC false))] (.tup [.agg (hallC true w), Int' e]) [] := by
  have := hall_Replay l
  rw [h] at this
  exact this
theorem put_eq {d x : S.Disk} {r : S.Rec} {e : Int} (h : S.putDisk d r = (x, e)) : C Tryz.prog 5 [.agg (diskC false d), .agg (recC false r)] (.tup [.agg (diskC true x), Int' e]) [] := by
  have := disk_Put d r
  rw [h] at this
  exact this
theorem sync_eq {d x : S.Disk} {e : Int} (h : S.syncDisk d = (x, e)) : C Tryz.prog 6 [.agg (diskC false d)] (.tup [.agg (diskC true x), Int' e]) [] := by
  have := disk_Sync d
  rw [h] at this
  exact this
theorem recover_eq {d x : S.Disk} {l : List S.Rec} {e : Int} (h : S.recoverDisk d = (x, l, e)) : C Tryz.prog 8 [.agg (diskC false d)] (recovR (x, l, e)) [] := by
  have := disk_Recover d
  rw [h] at this
  exact this
def NowAt (h : Heap) (l : List S.Rec) (w : S.Hall) : Prop := ∃ (H : S.Hall) (fr : Bool), h 112 = some ⟨53, 5, [hallC fr H]⟩ ∧ S.replayFrom H l = (w, 0)
def DiskAt (h : Heap) (ρ : Nat) (q : List S.Rec) : Prop := (q = [] ∧ h ρ = some ⟨24, 2, [[.nl, .nl]]⟩) ∨ h ρ = some ⟨24, 2, [diskC true ⟨S.textOf q, []⟩]⟩

theorem law_HallParts (l : List S.Rec) (k : Int) : C Tryz.prog 4 [.lst false 7 (l.map (recC false)), Int' k] (Bool' true) [] := by
  refine C_real (fun _ _ => by kernel_rfl) rfl rfl fun hr => ?_
  have hlen := (hr.get (j := 0) rfl).len
  clear hr
  rw [List.length_map] at hlen
  unfold maxLen at hlen
  obtain ⟨⟨w, e⟩, hw⟩ : ∃ p, S.replay l = p := ⟨_, rfl⟩
  have c1 := hid (replay_eq hw)
  by_cases he : e = 0
  rotate_left
  · have he' : decide (e = 0) = false := by simp [he]
    clear hw hlen
    refine C_inline [] Tryz.func4 (fun _ _ => by kernel_rfl) rfl (by kernel_rfl) (by rfl) (by decide) (by rfl) (by rfl) (by rfl) ?_
    simp -dsimp -implicitDefEqProofs [-getElem?_pos, -List.map_append, -List.map_set, List.getElem?_cons_zero, List.getElem?_cons_succ]
    refine call_CC (c1.out) ?_
    simp -dsimp -implicitDefEqProofs [-getElem?_pos, -List.map_append, -List.map_set, List.getElem?_cons_zero, List.getElem?_cons_succ]
    refine call_CC (law_once) ?_
    simp -dsimp -implicitDefEqProofs [-getElem?_pos, -List.map_append, -List.map_set, List.getElem?_cons_zero, List.getElem?_cons_succ, he', he]
    refine call_CC (law_once) ?_
    simp -dsimp -implicitDefEqProofs [-getElem?_pos, -List.map_append, -List.map_set, List.getElem?_cons_zero, List.getElem?_cons_succ]
    exact ends_bool rfl
  subst he
  obtain ⟨h80, hrf⟩ := S.replay_ok hw
  have hrec := S.replayFrom_recs hrf
  have ca := at_law k ((l.length : Int) + 1) (by omega)
  have e2 := Int.emod_nonneg k (by omega : (l.length : Int) + 1 ≠ 0)
  have e3 := Int.emod_lt_of_pos k (by omega : 0 < (l.length : Int) + 1)
  obtain ⟨j, hj⟩ : ∃ j : Nat, k % ((l.length : Int) + 1) = j := ⟨(k % ((l.length : Int) + 1)).toNat, by omega⟩
  rw [hj] at ca e3
  have hjl : j ≤ l.length := by omega
  obtain ⟨m, hm1, hm2⟩ := S.replayFrom_parts j hrf
  have hrt : S.replay (l.take j) = (m, 0) := by
    unfold S.replay
    rw [if_neg (by simp; omega), hm1]
  have c2 := hid (replay_eq hrt)
  have w1 : IntKind.i64.wrap ((l.length : Int) + 1) = (l.length : Int) + 1 := wrap_ok (by omega)
  replace ca := hid ca
  clear hw e2 e3 hj hm1 hrt hlen
  replace h80 := hid h80
  replace hrec := hid hrec
  replace hrf := hid hrf
  replace hm2 := hid hm2
  refine C_inline [] Tryz.func4 (fun _ _ => by kernel_rfl) rfl (by kernel_rfl) (by rfl) (by decide) (by rfl) (by rfl) (by rfl) ?_
  simp -dsimp -implicitDefEqProofs [-getElem?_pos, -List.map_append, -List.map_set, List.getElem?_cons_zero, List.getElem?_cons_succ]
  refine call_CC (c1.out) ?_
  simp -dsimp -implicitDefEqProofs [-getElem?_pos, -List.map_append, -List.map_set, List.getElem?_cons_zero, List.getElem?_cons_succ]
  refine call_CC (law_once) ?_
  simp -dsimp -implicitDefEqProofs [-getElem?_pos, -List.map_append, -List.map_set, List.getElem?_cons_zero, List.getElem?_cons_succ, w1]
  refine call_CC (ca.out) ?_
  simp -dsimp -implicitDefEqProofs [-getElem?_pos, -List.map_append, -List.map_set, List.getElem?_cons_zero, List.getElem?_cons_succ, hjl]
  refine call_CC (c2.out) ?_
  simp -dsimp -implicitDefEqProofs [-getElem?_pos, -List.map_append, -List.map_set, List.getElem?_cons_zero, List.getElem?_cons_succ, hjl]
  refine loop_count 45 (l.length - j) (fun i h n t => NowAt h (l.drop (j + i)) w ∧ h 24 = some ⟨53, 5, [hallC true w]⟩ ∧ ∃ d, n = d + 152) _ rfl (by rfl) ⟨⟨m, true, rfl, by simpa using hm2.out⟩, rfl, ⟨0, rfl⟩⟩ ?_ ?_
  · rintro i t h n hi hci hs ⟨⟨H, fr, h112, hf⟩, h24, d, rfl⟩
    have hw : IntKind.i64.wrap ((i : Int) + 1) = (i : Int) + 1 := wrap_ok (by have := h80.out; omega)
    obtain ⟨x, hx⟩ : ∃ x, l[j + i]? = some x := ⟨l[j + i]'(by omega), by simp⟩
    have hi' : decide (i < l.length - j) = true := by simp; omega
    have e0 := hs 0 rfl
    have e5 := hs 5 rfl
    have e7 := hs 7 rfl
    have e43 := hs 43 rfl
    have e44 := hs 44 rfl
    clear hs
    simp -dsimp -implicitDefEqProofs at e0 e5 e7 e43 e44
    replace hi := hid hi
    rw [drop_cons hx, S.replayFrom] at hf
    obtain ⟨⟨M, a, e⟩, hq⟩ : ∃ q, S.nextHall H x = q := ⟨_, rfl⟩
    rw [hq] at hf
    have cn := hid (next_eq hq)
    simp only at hf
    by_cases he : e = 0
    rotate_left
    · rw [if_pos he] at hf; simp only [Prod.mk.injEq] at hf; exact absurd hf.2 he
    subst he
    rw [if_neg (by simp)] at hf
    replace hf := hid hf
    simp -dsimp -implicitDefEqProofs [-getElem?_pos, -List.map_append, -List.map_set, List.getElem?_cons_zero, List.getElem?_cons_succ, e0, e5, e7, e43, e44, hci, hi', hx, h112]
    refine call_CC (cn.out) ?_
    simp -dsimp -implicitDefEqProofs [-getElem?_pos, -List.map_append, -List.map_set, List.getElem?_cons_zero, List.getElem?_cons_succ, e0, e5, e7, e43, e44, hci, hw, h24, h112]
    exact ⟨M, true, by simp -dsimp -implicitDefEqProofs, by rw [← Nat.add_assoc]; exact hf.out⟩
  · rintro t h n hci hs ⟨⟨H, fr, h112, hf⟩, h24, d, rfl⟩
    have hj' : j + (l.length - j) = l.length := by omega
    rw [hj', List.drop_length, S.replayFrom] at hf
    simp only [Prod.mk.injEq, and_true] at hf
    rw [hf] at h112
    clear hf hj' hm2 c2 hjl
    have e0 := hs 0 rfl
    have e5 := hs 5 rfl
    have e7 := hs 7 rfl
    have e43 := hs 43 rfl
    have e44 := hs 44 rfl
    clear hs
    simp -dsimp -implicitDefEqProofs at e0 e5 e7 e43 e44
    simp -dsimp -implicitDefEqProofs [-getElem?_pos, -List.map_append, -List.map_set, List.getElem?_cons_zero, List.getElem?_cons_succ, e0, e5, e7, e43, e44, hci]
    have f0 := e0
    have f5 := e5
    have f7 := e7
    obtain ⟨ρ, hρ⟩ : ∃ ρ, d + 156 = ρ := ⟨_, rfl⟩
    rw [hρ]
    have a24 : ¬ 24 = ρ := by omega
    have a112 : ¬ 112 = ρ := by omega
    refine loop_count 61 l.length (fun i h n t => DiskAt h ρ (l.take i) ∧ h 112 = some ⟨53, 5, [hallC fr w]⟩ ∧ h 24 = some ⟨53, 5, [hallC true w]⟩ ∧ ρ < n ∧ ∃ d, n = d + 152) _ rfl (by rfl) ⟨.inl ⟨rfl, by simp -dsimp⟩, by simp -dsimp [a112, h112], by simp -dsimp [a24, h24], (by show ρ < ρ + 4 + 12; omega), ⟨d + 20, (by show ρ + 4 + 12 = d + 20 + 152; omega)⟩⟩ ?_ ?_
    · clear h112 h24 hci e0 e5 e7 e43 e44 hρ
      rintro i t h n hi hci hs ⟨hd, h112, h24, hlt, d, rfl⟩
      have hw : IntKind.i64.wrap ((i : Int) + 1) = (i : Int) + 1 := wrap_ok (by have := h80.out; omega)
      obtain ⟨x, hx⟩ : ∃ x, l[i]? = some x := ⟨l[i], by simp⟩
      have hi' : decide (i < l.length) = true := by simp [hi]
      have hxr := hrec.out x (List.mem_of_getElem? hx)
      have hqr : ∀ r, r ∈ l.take i → S.checkRec r = 0 := fun r hr => hrec.out r (List.mem_of_mem_take hr)
      have hql : (l.take i).length < 80 := by have := h80.out; simp; omega
      obtain ⟨s1, s2⟩ := S.step_text hqr hxr hql
      have et : l.take (i + 1) = l.take i ++ [x] := by
        obtain ⟨g1, g2⟩ := List.getElem?_eq_some_iff.1 hx
        rw [List.take_succ_eq_append_getElem g1, g2]
      rw [← et] at s2
      have cp := put_eq s1
      have cs := hid (sync_eq s2)
      clear s1 s2 hqr hxr hql et
      have e0 := hs 0 rfl
      have e5 := hs 5 rfl
      have e7 := hs 7 rfl
      have e10 := hs 10 rfl
      have e59 := hs 59 rfl
      have e60 := hs 60 rfl
      clear hs
      simp -dsimp -implicitDefEqProofs at e0 e5 e7 e10 e59 e60
      replace hi := hid hi
      rcases hd with ⟨hq, hd⟩ | hd
      · rw [hq, show S.textOf ([] : List S.Rec) = [] from rfl] at cp
        have cp' := hid (cp.args (args2 := [.agg [.nl, .nl], .agg (recC false x)]) (.cons (.agg (.cons .nl (.cons .nl (.nil _)))) (.cons (.refl _) (.nil _))))
        clear cp
        rw [hq, show S.textOf ([] : List S.Rec) = [] from rfl] at cs
        unfold DiskAt
        generalize S.textOf (l.take (i + 1)) = c at *
        generalize S.textOf [x] = b at *
        clear hq
        simp -dsimp -implicitDefEqProofs [-getElem?_pos, -List.map_append, -List.map_set, List.getElem?_cons_zero, List.getElem?_cons_succ, e0, e5, e7, e10, e59, e60, hci, hi', hx, hd, ap0 hlt, ap1 hlt, ap2 hlt, ap3 hlt, ap4 hlt, ap5 hlt, ap6 hlt, ap7 hlt, ap8 hlt, ap9 hlt, ap10 hlt, ap11 hlt, ap12 hlt, ap13 hlt, ap14 hlt, ap15 hlt, ap16 hlt, ap17 hlt]
        refine call_CC (cp'.out) ?_
        simp -dsimp -implicitDefEqProofs [-getElem?_pos, -List.map_append, -List.map_set, List.getElem?_cons_zero, List.getElem?_cons_succ, e0, e5, e7, e10, e59, e60, hd, hci, ap0 hlt, ap1 hlt, ap2 hlt, ap3 hlt, ap4 hlt, ap5 hlt, ap6 hlt, ap7 hlt, ap8 hlt, ap9 hlt, ap10 hlt, ap11 hlt, ap12 hlt, ap13 hlt, ap14 hlt, ap15 hlt, ap16 hlt, ap17 hlt]
        refine call_CC (cs.out) ?_
        simp -dsimp -implicitDefEqProofs [-getElem?_pos, -List.map_append, -List.map_set, List.getElem?_cons_zero, List.getElem?_cons_succ, e0, e5, e7, e10, e59, e60, hd, hci, hw, h112, h24, a24, a112, ap0 hlt, ap1 hlt, ap2 hlt, ap3 hlt, ap4 hlt, ap5 hlt, ap6 hlt, ap7 hlt, ap8 hlt, ap9 hlt, ap10 hlt, ap11 hlt, ap12 hlt, ap13 hlt, ap14 hlt, ap15 hlt, ap16 hlt, ap17 hlt]
        omega
      · unfold DiskAt
        generalize S.textOf (l.take (i + 1)) = c at *
        generalize S.textOf [x] = b at *
        generalize S.textOf (l.take i) = a at *
        replace cp := hid cp
        simp -dsimp -implicitDefEqProofs [-getElem?_pos, -List.map_append, -List.map_set, List.getElem?_cons_zero, List.getElem?_cons_succ, e0, e5, e7, e10, e59, e60, hci, hi', hx, hd, ap0 hlt, ap1 hlt, ap2 hlt, ap3 hlt, ap4 hlt, ap5 hlt, ap6 hlt, ap7 hlt, ap8 hlt, ap9 hlt, ap10 hlt, ap11 hlt, ap12 hlt, ap13 hlt, ap14 hlt, ap15 hlt, ap16 hlt, ap17 hlt]
        refine call_CC (cp.out) ?_
        simp -dsimp -implicitDefEqProofs [-getElem?_pos, -List.map_append, -List.map_set, List.getElem?_cons_zero, List.getElem?_cons_succ, e0, e5, e7, e10, e59, e60, hd, hci, ap0 hlt, ap1 hlt, ap2 hlt, ap3 hlt, ap4 hlt, ap5 hlt, ap6 hlt, ap7 hlt, ap8 hlt, ap9 hlt, ap10 hlt, ap11 hlt, ap12 hlt, ap13 hlt, ap14 hlt, ap15 hlt, ap16 hlt, ap17 hlt]
        refine call_CC (cs.out) ?_
        simp -dsimp -implicitDefEqProofs [-getElem?_pos, -List.map_append, -List.map_set, List.getElem?_cons_zero, List.getElem?_cons_succ, e0, e5, e7, e10, e59, e60, hd, hci, hw, h112, h24, a24, a112, ap0 hlt, ap1 hlt, ap2 hlt, ap3 hlt, ap4 hlt, ap5 hlt, ap6 hlt, ap7 hlt, ap8 hlt, ap9 hlt, ap10 hlt, ap11 hlt, ap12 hlt, ap13 hlt, ap14 hlt, ap15 hlt, ap16 hlt, ap17 hlt]
        omega
    · clear h112 h24 hci e0 e5 e7 e43 e44 hρ
      rintro t h n hci hs ⟨hd, h112, h24, hlt, d, rfl⟩
      rw [List.take_length] at hd
      have cr := recover_eq (S.recover_text hrec.out h80.out)
      have cs : C Tryz.prog 23 [.agg (hallC false w), .agg (hallC false w)] (Bool' true) [] := by
        have := hall_Same w w
        rwa [decide_eq_true rfl] at this
      have ce : C Tryz.prog 17 [.lst false 7 (l.map (recC false)), .lst false 7 (l.map (recC false)), .fn 24 []] (Bool' true) [] := by
        have := equal_recs l l
        rwa [decide_eq_true rfl] at this
      replace cs := hid cs
      replace ce := hid ce
      have e0 := hs 0 rfl
      have e5 := hs 5 rfl
      have e7 := hs 7 rfl
      have e10 := hs 10 rfl
      have e59 := hs 59 rfl
      have e60 := hs 60 rfl
      clear hs
      simp -dsimp -implicitDefEqProofs at e0 e5 e7 e10 e59 e60
      rcases hd with ⟨hq, hd⟩ | hd
      · rw [show S.textOf l = [] from by rw [hq]; rfl] at cr
        have cr' := hid (cr.args (args2 := [.agg [.nl, .nl]]) (.cons (.agg (.cons .nl (.cons .nl (.nil _)))) (.nil _)))
        clear cr hq
        simp -dsimp -implicitDefEqProofs [-getElem?_pos, -List.map_append, -List.map_set, List.getElem?_cons_zero, List.getElem?_cons_succ, e0, e5, e7, e10, e59, e60, hci, hd, ap0 hlt, ap1 hlt, ap2 hlt, ap3 hlt, ap4 hlt, ap5 hlt, ap6 hlt, ap7 hlt, ap8 hlt, ap9 hlt, ap10 hlt, ap11 hlt, ap12 hlt, ap13 hlt, ap14 hlt, ap15 hlt, ap16 hlt, ap17 hlt]
        refine call_CC (cr'.out) ?_
        simp -dsimp -implicitDefEqProofs [-getElem?_pos, -List.map_append, -List.map_set, List.getElem?_cons_zero, List.getElem?_cons_succ, e0, e5, e7, e10, e59, e60, f0, f5, f7, h112, h24, a24, a112, ap0 hlt, ap1 hlt, ap2 hlt, ap3 hlt, ap4 hlt, ap5 hlt, ap6 hlt, ap7 hlt, ap8 hlt, ap9 hlt, ap10 hlt, ap11 hlt, ap12 hlt, ap13 hlt, ap14 hlt, ap15 hlt, ap16 hlt, ap17 hlt]
        refine call_CC (cs.out) ?_
        simp -dsimp -implicitDefEqProofs [-getElem?_pos, -List.map_append, -List.map_set, List.getElem?_cons_zero, List.getElem?_cons_succ, e0, e5, e7, e10, e59, e60, f0, f5, f7]
        refine call_CC (ce.out) ?_
        simp -dsimp -implicitDefEqProofs [-getElem?_pos, -List.map_append, -List.map_set, List.getElem?_cons_zero, List.getElem?_cons_succ]
        exact ends_bool rfl
      · generalize S.textOf l = a at *
        replace cr := hid cr
        simp -dsimp -implicitDefEqProofs [-getElem?_pos, -List.map_append, -List.map_set, List.getElem?_cons_zero, List.getElem?_cons_succ, e0, e5, e7, e10, e59, e60, hci, hd, ap0 hlt, ap1 hlt, ap2 hlt, ap3 hlt, ap4 hlt, ap5 hlt, ap6 hlt, ap7 hlt, ap8 hlt, ap9 hlt, ap10 hlt, ap11 hlt, ap12 hlt, ap13 hlt, ap14 hlt, ap15 hlt, ap16 hlt, ap17 hlt]
        refine call_CC (cr.out) ?_
        simp -dsimp -implicitDefEqProofs [-getElem?_pos, -List.map_append, -List.map_set, List.getElem?_cons_zero, List.getElem?_cons_succ, e0, e5, e7, e10, e59, e60, f0, f5, f7, h112, h24, a24, a112, ap0 hlt, ap1 hlt, ap2 hlt, ap3 hlt, ap4 hlt, ap5 hlt, ap6 hlt, ap7 hlt, ap8 hlt, ap9 hlt, ap10 hlt, ap11 hlt, ap12 hlt, ap13 hlt, ap14 hlt, ap15 hlt, ap16 hlt, ap17 hlt]
        refine call_CC (cs.out) ?_
        simp -dsimp -implicitDefEqProofs [-getElem?_pos, -List.map_append, -List.map_set, List.getElem?_cons_zero, List.getElem?_cons_succ, e0, e5, e7, e10, e59, e60, f0, f5, f7]
        refine call_CC (ce.out) ?_
        simp -dsimp -implicitDefEqProofs [-getElem?_pos, -List.map_append, -List.map_set, List.getElem?_cons_zero, List.getElem?_cons_succ]
        exact ends_bool rfl

end Go.Proofs.YtallmebpmoaopaaGreatDoor.E
