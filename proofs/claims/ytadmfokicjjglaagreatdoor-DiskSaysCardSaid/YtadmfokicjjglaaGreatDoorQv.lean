
/- Qv: law.DiskSays. -/
import Derived.Test.YtadmfokicjjglaaGreatDoorR2
import Derived.Test.YtadmfokicjjglaaGreatDoorQr
namespace Go.Proofs.YtadmfokicjjglaaGreatDoor.E
open Go.RowKit Go.Proofs
set_option linter.unusedVariables false
set_option linter.unusedSimpArgs false
set_option maxRecDepth 100000
set_option maxHeartbeats 4000000
theorem recover_errN (d : S.Disk) : (S.recoverDisk d).2.2 = S.checkDisk d := by
  unfold S.recoverDisk
  split
  · rfl
  · rename_i g; exact (Decidable.not_not.1 g).symm
theorem equal_recs_refN (xs ys : List S.Rec) : C Tryz.prog 27 [.lst false 7 (xs.map (recC false)), .lst false 7 (ys.map (recC false)), .fn 28 []] (Bool' (decide (xs = ys))) [] := by
  rw [← eqAll_dec]
  exact equalFunc_recs (fun _ => rfl) xs ys (fun x y _ _ => ref_SameRecN x y) (fun _ _ => ⟨rfl, rfl⟩)
theorem same_diskZ {d : S.Disk} (h : d = S.Disk.zero) : C Tryz.prog 23 [.agg (diskC false d), .agg [.nl, .nl]] (Bool' true) [] := by
  have := ref_SameDisk d S.Disk.zero
  rw [decide_eq_true h] at this
  exact this.args (.cons (.refl _) (.cons (.agg (.cons .nl (.cons .nl (.nil _)))) (.nil _)))
theorem same_disk1 (d : S.Disk) : C Tryz.prog 23 [.agg (diskC false d), .agg (diskC false d)] (Bool' true) [] := by
  have := ref_SameDisk d d
  rwa [decide_eq_true rfl] at this
theorem law_DiskSays (d : S.Disk) (c : S.Rec) (n : Int) (x : S.Disk) : C Tryz.prog 4 [.agg (diskC false d), .agg (recC false c), Int' n, .agg (diskC false x)] (Bool' true) [] := by
  obtain ⟨⟨a, e⟩, h1⟩ : ∃ q, S.putDisk d c = q := ⟨_, rfl⟩
  obtain ⟨⟨b, f⟩, h2⟩ : ∃ q, S.syncDisk d = q := ⟨_, rfl⟩
  obtain ⟨⟨k, g⟩, h3⟩ : ∃ q, S.crashDisk d n = q := ⟨_, rfl⟩
  obtain ⟨⟨r, l, m⟩, h4⟩ : ∃ q, S.recoverDisk d = q := ⟨_, rfl⟩
  have c1 := hid (put_eq h1)
  have c2 := hid (sync_eq h2)
  have c3 := hid (crash_eq h3)
  have c4 := hid (recover_eq h4)
  have c5 := ref_CheckDisk d
  have c6 := disk_Check d
  obtain ⟨s, hs⟩ : ∃ b, decide (d = x) = b := ⟨_, rfl⟩
  have c7 := disk_Same d x
  have c8 := ref_SameDisk d x
  rw [hs] at c7 c8
  replace c7 := hid c7
  replace c8 := hid c8
  clear hs
  by_cases hc : S.checkDisk d = 0
  rotate_left
  · unfold S.putDisk at h1
    unfold S.syncDisk at h2
    unfold S.crashDisk at h3
    unfold S.recoverDisk at h4
    rw [if_pos hc] at h1 h2 h3 h4
    generalize S.checkDisk d = z at *
    simp only [Prod.mk.injEq] at h1 h2 h3 h4
    obtain ⟨ha, rfl⟩ := h1
    obtain ⟨hb, rfl⟩ := h2
    obtain ⟨hk, rfl⟩ := h3
    obtain ⟨hr, rfl, rfl⟩ := h4
    have c9 := hid (same_diskZ ha.symm)
    have c10 := hid (same_diskZ hb.symm)
    have c11 := hid (same_diskZ hk.symm)
    have c12 := hid (same_diskZ hr.symm)
    have hc' : decide (z = 0) = false := by simp [hc]
    replace c5 := hid c5
    replace c6 := hid c6
    clear ha hb hk hr
    refine C_inline [] Tryz.func4 (fun _ _ => by kernel_rfl) rfl (by kernel_rfl) (by rfl) (by decide) (by rfl) (by rfl) (by rfl) ?_
    simp -dsimp -implicitDefEqProofs [-getElem?_pos, -List.map_append, -List.map_set, List.getElem?_cons_zero, List.getElem?_cons_succ]
    refine call_CC (c1.out) ?_
    simp -dsimp -implicitDefEqProofs [-getElem?_pos, -List.map_append, -List.map_set, List.getElem?_cons_zero, List.getElem?_cons_succ]
    refine call_CC (c2.out) ?_
    simp -dsimp -implicitDefEqProofs [-getElem?_pos, -List.map_append, -List.map_set, List.getElem?_cons_zero, List.getElem?_cons_succ]
    refine call_CC (c3.out) ?_
    simp -dsimp -implicitDefEqProofs [-getElem?_pos, -List.map_append, -List.map_set, List.getElem?_cons_zero, List.getElem?_cons_succ]
    refine call_CC (c4.out) ?_
    simp -dsimp -implicitDefEqProofs [-getElem?_pos, -List.map_append, -List.map_set, List.getElem?_cons_zero, List.getElem?_cons_succ]
    refine call_CC (c5.out) ?_
    simp -dsimp -implicitDefEqProofs [-getElem?_pos, -List.map_append, -List.map_set, List.getElem?_cons_zero, List.getElem?_cons_succ]
    refine call_CC (law_filed) ?_
    simp -dsimp -implicitDefEqProofs [-getElem?_pos, -List.map_append, -List.map_set, List.getElem?_cons_zero, List.getElem?_cons_succ]
    refine call_CC (c6.out) ?_
    simp -dsimp -implicitDefEqProofs [-getElem?_pos, -List.map_append, -List.map_set, List.getElem?_cons_zero, List.getElem?_cons_succ]
    refine call_CC (c7.out) ?_
    simp -dsimp -implicitDefEqProofs [-getElem?_pos, -List.map_append, -List.map_set, List.getElem?_cons_zero, List.getElem?_cons_succ]
    refine call_CC (c8.out) ?_
    simp -dsimp -implicitDefEqProofs [-getElem?_pos, -List.map_append, -List.map_set, List.getElem?_cons_zero, List.getElem?_cons_succ, hc', hc]
    refine call_CC (c9.out) ?_
    simp -dsimp -implicitDefEqProofs [-getElem?_pos, -List.map_append, -List.map_set, List.getElem?_cons_zero, List.getElem?_cons_succ]
    refine call_CC (c10.out) ?_
    simp -dsimp -implicitDefEqProofs [-getElem?_pos, -List.map_append, -List.map_set, List.getElem?_cons_zero, List.getElem?_cons_succ]
    refine call_CC (c11.out) ?_
    simp -dsimp -implicitDefEqProofs [-getElem?_pos, -List.map_append, -List.map_set, List.getElem?_cons_zero, List.getElem?_cons_succ]
    refine call_CC (c12.out) ?_
    simp -dsimp -implicitDefEqProofs [-getElem?_pos, -List.map_append, -List.map_set, List.getElem?_cons_zero, List.getElem?_cons_succ]
    exact ends_bool rfl
  have c9 := ref_PutOn d c hc
  have c10 := ref_Synced d hc
  have c11 := ref_Recovered d hc
  rw [h1] at c9
  rw [h2] at c10
  have h5 := recover_errN d
  rw [h4] at c11 h5
  rw [hc] at c5 c6 h5
  simp only at h5
  subst h5
  have s1 := hid (same_disk1 a)
  have s2 := hid (same_disk1 b)
  have s3 := hid (same_disk1 r)
  have s4 := equal_recs_refN l l
  rw [decide_eq_true rfl] at s4
  replace s4 := hid s4
  replace c5 := hid c5
  replace c6 := hid c6
  replace c9 := hid c9
  replace c10 := hid c10
  replace c11 := hid c11
  unfold S.crashDisk at h3
  rw [if_neg (by simp [hc])] at h3
  clear h1 h2 h4 hc
  by_cases k1 : n < 0
  · rw [if_pos (.inl k1)] at h3
    have k1' : decide (n < 0) = true := by simp [k1]
    obtain ⟨hk, rfl⟩ := Prod.mk.inj h3
    have c12 := hid (same_diskZ hk.symm)
    clear h3 hk
    refine C_inline [] Tryz.func4 (fun _ _ => by kernel_rfl) rfl (by kernel_rfl) (by rfl) (by decide) (by rfl) (by rfl) (by rfl) ?_
    simp -dsimp -implicitDefEqProofs [-getElem?_pos, -List.map_append, -List.map_set, List.getElem?_cons_zero, List.getElem?_cons_succ]
    refine call_CC (c1.out) ?_
    simp -dsimp -implicitDefEqProofs [-getElem?_pos, -List.map_append, -List.map_set, List.getElem?_cons_zero, List.getElem?_cons_succ]
    refine call_CC (c2.out) ?_
    simp -dsimp -implicitDefEqProofs [-getElem?_pos, -List.map_append, -List.map_set, List.getElem?_cons_zero, List.getElem?_cons_succ]
    refine call_CC (c3.out) ?_
    simp -dsimp -implicitDefEqProofs [-getElem?_pos, -List.map_append, -List.map_set, List.getElem?_cons_zero, List.getElem?_cons_succ]
    refine call_CC (c4.out) ?_
    simp -dsimp -implicitDefEqProofs [-getElem?_pos, -List.map_append, -List.map_set, List.getElem?_cons_zero, List.getElem?_cons_succ]
    refine call_CC (c5.out) ?_
    simp -dsimp -implicitDefEqProofs [-getElem?_pos, -List.map_append, -List.map_set, List.getElem?_cons_zero, List.getElem?_cons_succ]
    refine call_CC (law_filed) ?_
    simp -dsimp -implicitDefEqProofs [-getElem?_pos, -List.map_append, -List.map_set, List.getElem?_cons_zero, List.getElem?_cons_succ]
    refine call_CC (c6.out) ?_
    simp -dsimp -implicitDefEqProofs [-getElem?_pos, -List.map_append, -List.map_set, List.getElem?_cons_zero, List.getElem?_cons_succ]
    refine call_CC (c7.out) ?_
    simp -dsimp -implicitDefEqProofs [-getElem?_pos, -List.map_append, -List.map_set, List.getElem?_cons_zero, List.getElem?_cons_succ]
    refine call_CC (c8.out) ?_
    simp -dsimp -implicitDefEqProofs [-getElem?_pos, -List.map_append, -List.map_set, List.getElem?_cons_zero, List.getElem?_cons_succ]
    refine call_CC (c9.out) ?_
    simp -dsimp -implicitDefEqProofs [-getElem?_pos, -List.map_append, -List.map_set, List.getElem?_cons_zero, List.getElem?_cons_succ]
    refine call_CC (c10.out) ?_
    simp -dsimp -implicitDefEqProofs [-getElem?_pos, -List.map_append, -List.map_set, List.getElem?_cons_zero, List.getElem?_cons_succ]
    refine call_CC (c11.out) ?_
    simp -dsimp -implicitDefEqProofs [-getElem?_pos, -List.map_append, -List.map_set, List.getElem?_cons_zero, List.getElem?_cons_succ]
    refine call_CC (s1.out) ?_
    simp -dsimp -implicitDefEqProofs [-getElem?_pos, -List.map_append, -List.map_set, List.getElem?_cons_zero, List.getElem?_cons_succ]
    refine call_CC (s2.out) ?_
    simp -dsimp -implicitDefEqProofs [-getElem?_pos, -List.map_append, -List.map_set, List.getElem?_cons_zero, List.getElem?_cons_succ]
    refine call_CC (s3.out) ?_
    simp -dsimp -implicitDefEqProofs [-getElem?_pos, -List.map_append, -List.map_set, List.getElem?_cons_zero, List.getElem?_cons_succ]
    refine call_CC (s4.out) ?_
    simp -dsimp -implicitDefEqProofs [-getElem?_pos, -List.map_append, -List.map_set, List.getElem?_cons_zero, List.getElem?_cons_succ, k1']
    refine call_CC (c12.out) ?_
    simp -dsimp -implicitDefEqProofs [-getElem?_pos, -List.map_append, -List.map_set, List.getElem?_cons_zero, List.getElem?_cons_succ]
    exact ends_bool rfl
  have k1' : decide (n < 0) = false := by simp; omega
  by_cases k2 : (d.wait.length : Int) < n
  · rw [if_pos (.inr k2)] at h3
    have k2' : decide ((d.wait.length : Int) < n) = true := by simp [k2]
    obtain ⟨hk, rfl⟩ := Prod.mk.inj h3
    have c12 := hid (same_diskZ hk.symm)
    clear h3 hk
    refine C_inline [] Tryz.func4 (fun _ _ => by kernel_rfl) rfl (by kernel_rfl) (by rfl) (by decide) (by rfl) (by rfl) (by rfl) ?_
    simp -dsimp -implicitDefEqProofs [-getElem?_pos, -List.map_append, -List.map_set, List.getElem?_cons_zero, List.getElem?_cons_succ]
    refine call_CC (c1.out) ?_
    simp -dsimp -implicitDefEqProofs [-getElem?_pos, -List.map_append, -List.map_set, List.getElem?_cons_zero, List.getElem?_cons_succ]
    refine call_CC (c2.out) ?_
    simp -dsimp -implicitDefEqProofs [-getElem?_pos, -List.map_append, -List.map_set, List.getElem?_cons_zero, List.getElem?_cons_succ]
    refine call_CC (c3.out) ?_
    simp -dsimp -implicitDefEqProofs [-getElem?_pos, -List.map_append, -List.map_set, List.getElem?_cons_zero, List.getElem?_cons_succ]
    refine call_CC (c4.out) ?_
    simp -dsimp -implicitDefEqProofs [-getElem?_pos, -List.map_append, -List.map_set, List.getElem?_cons_zero, List.getElem?_cons_succ]
    refine call_CC (c5.out) ?_
    simp -dsimp -implicitDefEqProofs [-getElem?_pos, -List.map_append, -List.map_set, List.getElem?_cons_zero, List.getElem?_cons_succ]
    refine call_CC (law_filed) ?_
    simp -dsimp -implicitDefEqProofs [-getElem?_pos, -List.map_append, -List.map_set, List.getElem?_cons_zero, List.getElem?_cons_succ]
    refine call_CC (c6.out) ?_
    simp -dsimp -implicitDefEqProofs [-getElem?_pos, -List.map_append, -List.map_set, List.getElem?_cons_zero, List.getElem?_cons_succ]
    refine call_CC (c7.out) ?_
    simp -dsimp -implicitDefEqProofs [-getElem?_pos, -List.map_append, -List.map_set, List.getElem?_cons_zero, List.getElem?_cons_succ]
    refine call_CC (c8.out) ?_
    simp -dsimp -implicitDefEqProofs [-getElem?_pos, -List.map_append, -List.map_set, List.getElem?_cons_zero, List.getElem?_cons_succ]
    refine call_CC (c9.out) ?_
    simp -dsimp -implicitDefEqProofs [-getElem?_pos, -List.map_append, -List.map_set, List.getElem?_cons_zero, List.getElem?_cons_succ]
    refine call_CC (c10.out) ?_
    simp -dsimp -implicitDefEqProofs [-getElem?_pos, -List.map_append, -List.map_set, List.getElem?_cons_zero, List.getElem?_cons_succ]
    refine call_CC (c11.out) ?_
    simp -dsimp -implicitDefEqProofs [-getElem?_pos, -List.map_append, -List.map_set, List.getElem?_cons_zero, List.getElem?_cons_succ]
    refine call_CC (s1.out) ?_
    simp -dsimp -implicitDefEqProofs [-getElem?_pos, -List.map_append, -List.map_set, List.getElem?_cons_zero, List.getElem?_cons_succ]
    refine call_CC (s2.out) ?_
    simp -dsimp -implicitDefEqProofs [-getElem?_pos, -List.map_append, -List.map_set, List.getElem?_cons_zero, List.getElem?_cons_succ]
    refine call_CC (s3.out) ?_
    simp -dsimp -implicitDefEqProofs [-getElem?_pos, -List.map_append, -List.map_set, List.getElem?_cons_zero, List.getElem?_cons_succ]
    refine call_CC (s4.out) ?_
    simp -dsimp -implicitDefEqProofs [-getElem?_pos, -List.map_append, -List.map_set, List.getElem?_cons_zero, List.getElem?_cons_succ, k1', k2']
    refine call_CC (c12.out) ?_
    simp -dsimp -implicitDefEqProofs [-getElem?_pos, -List.map_append, -List.map_set, List.getElem?_cons_zero, List.getElem?_cons_succ]
    exact ends_bool rfl
  · rw [if_neg (by omega)] at h3
    obtain ⟨j, rfl⟩ : ∃ j : Nat, n = j := ⟨n.toNat, by omega⟩
    have k2' : decide (d.wait.length < j) = false := by simp; omega
    have k3 : j ≤ d.wait.length := by omega
    simp only [Int.toNat_natCast] at h3
    obtain ⟨hk, rfl⟩ := Prod.mk.inj h3
    have c12 := same_disk1 k
    rw [← hk] at c3 c12
    replace c12 := hid c12
    obtain ⟨da, dw⟩ := d
    simp only at k2' k3 hk c3 c12
    clear h3 hk k2
    refine C_inline [] Tryz.func4 (fun _ _ => by kernel_rfl) rfl (by kernel_rfl) (by rfl) (by decide) (by rfl) (by rfl) (by rfl) ?_
    simp -dsimp -implicitDefEqProofs [-getElem?_pos, -List.map_append, -List.map_set, List.getElem?_cons_zero, List.getElem?_cons_succ]
    refine call_CC (c1.out) ?_
    simp -dsimp -implicitDefEqProofs [-getElem?_pos, -List.map_append, -List.map_set, List.getElem?_cons_zero, List.getElem?_cons_succ]
    refine call_CC (c2.out) ?_
    simp -dsimp -implicitDefEqProofs [-getElem?_pos, -List.map_append, -List.map_set, List.getElem?_cons_zero, List.getElem?_cons_succ]
    refine call_CC (c3.out) ?_
    simp -dsimp -implicitDefEqProofs [-getElem?_pos, -List.map_append, -List.map_set, List.getElem?_cons_zero, List.getElem?_cons_succ]
    refine call_CC (c4.out) ?_
    simp -dsimp -implicitDefEqProofs [-getElem?_pos, -List.map_append, -List.map_set, List.getElem?_cons_zero, List.getElem?_cons_succ]
    refine call_CC (c5.out) ?_
    simp -dsimp -implicitDefEqProofs [-getElem?_pos, -List.map_append, -List.map_set, List.getElem?_cons_zero, List.getElem?_cons_succ]
    refine call_CC (law_filed) ?_
    simp -dsimp -implicitDefEqProofs [-getElem?_pos, -List.map_append, -List.map_set, List.getElem?_cons_zero, List.getElem?_cons_succ]
    refine call_CC (c6.out) ?_
    simp -dsimp -implicitDefEqProofs [-getElem?_pos, -List.map_append, -List.map_set, List.getElem?_cons_zero, List.getElem?_cons_succ]
    refine call_CC (c7.out) ?_
    simp -dsimp -implicitDefEqProofs [-getElem?_pos, -List.map_append, -List.map_set, List.getElem?_cons_zero, List.getElem?_cons_succ]
    refine call_CC (c8.out) ?_
    simp -dsimp -implicitDefEqProofs [-getElem?_pos, -List.map_append, -List.map_set, List.getElem?_cons_zero, List.getElem?_cons_succ]
    refine call_CC (c9.out) ?_
    simp -dsimp -implicitDefEqProofs [-getElem?_pos, -List.map_append, -List.map_set, List.getElem?_cons_zero, List.getElem?_cons_succ]
    refine call_CC (c10.out) ?_
    simp -dsimp -implicitDefEqProofs [-getElem?_pos, -List.map_append, -List.map_set, List.getElem?_cons_zero, List.getElem?_cons_succ]
    refine call_CC (c11.out) ?_
    simp -dsimp -implicitDefEqProofs [-getElem?_pos, -List.map_append, -List.map_set, List.getElem?_cons_zero, List.getElem?_cons_succ]
    refine call_CC (s1.out) ?_
    simp -dsimp -implicitDefEqProofs [-getElem?_pos, -List.map_append, -List.map_set, List.getElem?_cons_zero, List.getElem?_cons_succ]
    refine call_CC (s2.out) ?_
    simp -dsimp -implicitDefEqProofs [-getElem?_pos, -List.map_append, -List.map_set, List.getElem?_cons_zero, List.getElem?_cons_succ]
    refine call_CC (s3.out) ?_
    simp -dsimp -implicitDefEqProofs [-getElem?_pos, -List.map_append, -List.map_set, List.getElem?_cons_zero, List.getElem?_cons_succ]
    refine call_CC (s4.out) ?_
    simp -dsimp -implicitDefEqProofs [-getElem?_pos, -List.map_append, -List.map_set, List.getElem?_cons_zero, List.getElem?_cons_succ, k1', k2', k3]
    refine call_CC (c12.out) ?_
    simp -dsimp -implicitDefEqProofs [-getElem?_pos, -List.map_append, -List.map_set, List.getElem?_cons_zero, List.getElem?_cons_succ]
    exact ends_bool rfl
end Go.Proofs.YtadmfokicjjglaaGreatDoor.E
