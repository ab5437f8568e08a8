/- P1: Pz: names below s are none of s and more: far. (Printed by a program.) Px: disk.Recover: the disk that it gives is new. Pa: slices.Delete on a row of mails of one's own. -/
import Derived.Test.YtginfkadmjikhaaGreatDoorX5
import Derived.Test.YtginfkadmjikhaaGreatDoorQ2
import Derived.Test.YtginfkadmjikhaaGreatDoorBase
import Derived.Deep.RegionLaw
import Derived.Lib.SliceRun
import Derived.Laws.IdiomCopy
namespace Go.Proofs.YtginfkadmjikhaaGreatDoor.E
theorem far {i s : Nat} (h : i < s) : ¬ i = s ∧ ¬ s = i ∧ (∀ a0, ¬ i = s + a0) ∧ (∀ a0, ¬ s + a0 = i) ∧ (∀ a0 a1, ¬ i = s + a0 + a1) ∧ (∀ a0 a1, ¬ s + a0 + a1 = i) ∧ (∀ a0 a1 a2, ¬ i = s + a0 + a1 + a2) ∧ (∀ a0 a1 a2, ¬ s + a0 + a1 + a2 = i) ∧ (∀ a0 a1 a2 a3, ¬ i = s + a0 + a1 + a2 + a3) ∧ (∀ a0 a1 a2 a3, ¬ s + a0 + a1 + a2 + a3 = i) ∧ (∀ a0 a1 a2 a3 a4, ¬ i = s + a0 + a1 + a2 + a3 + a4) ∧ (∀ a0 a1 a2 a3 a4, ¬ s + a0 + a1 + a2 + a3 + a4 = i) ∧ (∀ a0 a1 a2 a3 a4 a5, ¬ i = s + a0 + a1 + a2 + a3 + a4 + a5) ∧ (∀ a0 a1 a2 a3 a4 a5, ¬ s + a0 + a1 + a2 + a3 + a4 + a5 = i) ∧ (∀ a0 a1 a2 a3 a4 a5 a6, ¬ i = s + a0 + a1 + a2 + a3 + a4 + a5 + a6) ∧ (∀ a0 a1 a2 a3 a4 a5 a6, ¬ s + a0 + a1 + a2 + a3 + a4 + a5 + a6 = i) ∧ (∀ a0 a1 a2 a3 a4 a5 a6 a7, ¬ i = s + a0 + a1 + a2 + a3 + a4 + a5 + a6 + a7) ∧ (∀ a0 a1 a2 a3 a4 a5 a6 a7, ¬ s + a0 + a1 + a2 + a3 + a4 + a5 + a6 + a7 = i) ∧ (∀ a0 a1 a2 a3 a4 a5 a6 a7 a8, ¬ i = s + a0 + a1 + a2 + a3 + a4 + a5 + a6 + a7 + a8) ∧ (∀ a0 a1 a2 a3 a4 a5 a6 a7 a8, ¬ s + a0 + a1 + a2 + a3 + a4 + a5 + a6 + a7 + a8 = i) ∧ (∀ a0 a1 a2 a3 a4 a5 a6 a7 a8 a9, ¬ i = s + a0 + a1 + a2 + a3 + a4 + a5 + a6 + a7 + a8 + a9) ∧ (∀ a0 a1 a2 a3 a4 a5 a6 a7 a8 a9, ¬ s + a0 + a1 + a2 + a3 + a4 + a5 + a6 + a7 + a8 + a9 = i) ∧ (∀ a0 a1 a2 a3 a4 a5 a6 a7 a8 a9 a10, ¬ i = s + a0 + a1 + a2 + a3 + a4 + a5 + a6 + a7 + a8 + a9 + a10) ∧ (∀ a0 a1 a2 a3 a4 a5 a6 a7 a8 a9 a10, ¬ s + a0 + a1 + a2 + a3 + a4 + a5 + a6 + a7 + a8 + a9 + a10 = i) ∧ (∀ a0 a1 a2 a3 a4 a5 a6 a7 a8 a9 a10 a11, ¬ i = s + a0 + a1 + a2 + a3 + a4 + a5 + a6 + a7 + a8 + a9 + a10 + a11) ∧ (∀ a0 a1 a2 a3 a4 a5 a6 a7 a8 a9 a10 a11, ¬ s + a0 + a1 + a2 + a3 + a4 + a5 + a6 + a7 + a8 + a9 + a10 + a11 = i) ∧ (∀ a0 a1 a2 a3 a4 a5 a6 a7 a8 a9 a10 a11 a12, ¬ i = s + a0 + a1 + a2 + a3 + a4 + a5 + a6 + a7 + a8 + a9 + a10 + a11 + a12) ∧ (∀ a0 a1 a2 a3 a4 a5 a6 a7 a8 a9 a10 a11 a12, ¬ s + a0 + a1 + a2 + a3 + a4 + a5 + a6 + a7 + a8 + a9 + a10 + a11 + a12 = i) ∧ (∀ a0 a1 a2 a3 a4 a5 a6 a7 a8 a9 a10 a11 a12 a13, ¬ i = s + a0 + a1 + a2 + a3 + a4 + a5 + a6 + a7 + a8 + a9 + a10 + a11 + a12 + a13) ∧ (∀ a0 a1 a2 a3 a4 a5 a6 a7 a8 a9 a10 a11 a12 a13, ¬ s + a0 + a1 + a2 + a3 + a4 + a5 + a6 + a7 + a8 + a9 + a10 + a11 + a12 + a13 = i) ∧ (∀ a0 a1 a2 a3 a4 a5 a6 a7 a8 a9 a10 a11 a12 a13 a14, ¬ i = s + a0 + a1 + a2 + a3 + a4 + a5 + a6 + a7 + a8 + a9 + a10 + a11 + a12 + a13 + a14) ∧ (∀ a0 a1 a2 a3 a4 a5 a6 a7 a8 a9 a10 a11 a12 a13 a14, ¬ s + a0 + a1 + a2 + a3 + a4 + a5 + a6 + a7 + a8 + a9 + a10 + a11 + a12 + a13 + a14 = i) ∧ (∀ a0 a1 a2 a3 a4 a5 a6 a7 a8 a9 a10 a11 a12 a13 a14 a15, ¬ i = s + a0 + a1 + a2 + a3 + a4 + a5 + a6 + a7 + a8 + a9 + a10 + a11 + a12 + a13 + a14 + a15) ∧ (∀ a0 a1 a2 a3 a4 a5 a6 a7 a8 a9 a10 a11 a12 a13 a14 a15, ¬ s + a0 + a1 + a2 + a3 + a4 + a5 + a6 + a7 + a8 + a9 + a10 + a11 + a12 + a13 + a14 + a15 = i) ∧ (∀ a0 a1 a2 a3 a4 a5 a6 a7 a8 a9 a10 a11 a12 a13 a14 a15 a16, ¬ i = s + a0 + a1 + a2 + a3 + a4 + a5 + a6 + a7 + a8 + a9 + a10 + a11 + a12 + a13 + a14 + a15 + a16) ∧ (∀ a0 a1 a2 a3 a4 a5 a6 a7 a8 a9 a10 a11 a12 a13 a14 a15 a16, ¬ s + a0 + a1 + a2 + a3 + a4 + a5 + a6 + a7 + a8 + a9 + a10 + a11 + a12 + a13 + a14 + a15 + a16 = i) ∧ (∀ a0 a1 a2 a3 a4 a5 a6 a7 a8 a9 a10 a11 a12 a13 a14 a15 a16 a17, ¬ i = s + a0 + a1 + a2 + a3 + a4 + a5 + a6 + a7 + a8 + a9 + a10 + a11 + a12 + a13 + a14 + a15 + a16 + a17) ∧ (∀ a0 a1 a2 a3 a4 a5 a6 a7 a8 a9 a10 a11 a12 a13 a14 a15 a16 a17, ¬ s + a0 + a1 + a2 + a3 + a4 + a5 + a6 + a7 + a8 + a9 + a10 + a11 + a12 + a13 + a14 + a15 + a16 + a17 = i) ∧ (∀ a0 a1 a2 a3 a4 a5 a6 a7 a8 a9 a10 a11 a12 a13 a14 a15 a16 a17 a18, ¬ i = s + a0 + a1 + a2 + a3 + a4 + a5 + a6 + a7 + a8 + a9 + a10 + a11 + a12 + a13 + a14 + a15 + a16 + a17 + a18) ∧ (∀ a0 a1 a2 a3 a4 a5 a6 a7 a8 a9 a10 a11 a12 a13 a14 a15 a16 a17 a18, ¬ s + a0 + a1 + a2 + a3 + a4 + a5 + a6 + a7 + a8 + a9 + a10 + a11 + a12 + a13 + a14 + a15 + a16 + a17 + a18 = i) ∧ (∀ a0 a1 a2 a3 a4 a5 a6 a7 a8 a9 a10 a11 a12 a13 a14 a15 a16 a17 a18 a19, ¬ i = s + a0 + a1 + a2 + a3 + a4 + a5 + a6 + a7 + a8 + a9 + a10 + a11 + a12 + a13 + a14 + a15 + a16 + a17 + a18 + a19) ∧ (∀ a0 a1 a2 a3 a4 a5 a6 a7 a8 a9 a10 a11 a12 a13 a14 a15 a16 a17 a18 a19, ¬ s + a0 + a1 + a2 + a3 + a4 + a5 + a6 + a7 + a8 + a9 + a10 + a11 + a12 + a13 + a14 + a15 + a16 + a17 + a18 + a19 = i) ∧ (∀ a0 a1 a2 a3 a4 a5 a6 a7 a8 a9 a10 a11 a12 a13 a14 a15 a16 a17 a18 a19 a20, ¬ i = s + a0 + a1 + a2 + a3 + a4 + a5 + a6 + a7 + a8 + a9 + a10 + a11 + a12 + a13 + a14 + a15 + a16 + a17 + a18 + a19 + a20) ∧ (∀ a0 a1 a2 a3 a4 a5 a6 a7 a8 a9 a10 a11 a12 a13 a14 a15 a16 a17 a18 a19 a20, ¬ s + a0 + a1 + a2 + a3 + a4 + a5 + a6 + a7 + a8 + a9 + a10 + a11 + a12 + a13 + a14 + a15 + a16 + a17 + a18 + a19 + a20 = i) ∧ (∀ a0 a1 a2 a3 a4 a5 a6 a7 a8 a9 a10 a11 a12 a13 a14 a15 a16 a17 a18 a19 a20 a21, ¬ i = s + a0 + a1 + a2 + a3 + a4 + a5 + a6 + a7 + a8 + a9 + a10 + a11 + a12 + a13 + a14 + a15 + a16 + a17 + a18 + a19 + a20 + a21) ∧ (∀ a0 a1 a2 a3 a4 a5 a6 a7 a8 a9 a10 a11 a12 a13 a14 a15 a16 a17 a18 a19 a20 a21, ¬ s + a0 + a1 + a2 + a3 + a4 + a5 + a6 + a7 + a8 + a9 + a10 + a11 + a12 + a13 + a14 + a15 + a16 + a17 + a18 + a19 + a20 + a21 = i) ∧ (∀ a0 a1 a2 a3 a4 a5 a6 a7 a8 a9 a10 a11 a12 a13 a14 a15 a16 a17 a18 a19 a20 a21 a22, ¬ i = s + a0 + a1 + a2 + a3 + a4 + a5 + a6 + a7 + a8 + a9 + a10 + a11 + a12 + a13 + a14 + a15 + a16 + a17 + a18 + a19 + a20 + a21 + a22) ∧ (∀ a0 a1 a2 a3 a4 a5 a6 a7 a8 a9 a10 a11 a12 a13 a14 a15 a16 a17 a18 a19 a20 a21 a22, ¬ s + a0 + a1 + a2 + a3 + a4 + a5 + a6 + a7 + a8 + a9 + a10 + a11 + a12 + a13 + a14 + a15 + a16 + a17 + a18 + a19 + a20 + a21 + a22 = i) ∧ (∀ a0 a1 a2 a3 a4 a5 a6 a7 a8 a9 a10 a11 a12 a13 a14 a15 a16 a17 a18 a19 a20 a21 a22 a23, ¬ i = s + a0 + a1 + a2 + a3 + a4 + a5 + a6 + a7 + a8 + a9 + a10 + a11 + a12 + a13 + a14 + a15 + a16 + a17 + a18 + a19 + a20 + a21 + a22 + a23) ∧ (∀ a0 a1 a2 a3 a4 a5 a6 a7 a8 a9 a10 a11 a12 a13 a14 a15 a16 a17 a18 a19 a20 a21 a22 a23, ¬ s + a0 + a1 + a2 + a3 + a4 + a5 + a6 + a7 + a8 + a9 + a10 + a11 + a12 + a13 + a14 + a15 + a16 + a17 + a18 + a19 + a20 + a21 + a22 + a23 = i) ∧ (∀ a0 a1 a2 a3 a4 a5 a6 a7 a8 a9 a10 a11 a12 a13 a14 a15 a16 a17 a18 a19 a20 a21 a22 a23 a24, ¬ i = s + a0 + a1 + a2 + a3 + a4 + a5 + a6 + a7 + a8 + a9 + a10 + a11 + a12 + a13 + a14 + a15 + a16 + a17 + a18 + a19 + a20 + a21 + a22 + a23 + a24) ∧ (∀ a0 a1 a2 a3 a4 a5 a6 a7 a8 a9 a10 a11 a12 a13 a14 a15 a16 a17 a18 a19 a20 a21 a22 a23 a24, ¬ s + a0 + a1 + a2 + a3 + a4 + a5 + a6 + a7 + a8 + a9 + a10 + a11 + a12 + a13 + a14 + a15 + a16 + a17 + a18 + a19 + a20 + a21 + a22 + a23 + a24 = i) ∧ (∀ a0 a1 a2 a3 a4 a5 a6 a7 a8 a9 a10 a11 a12 a13 a14 a15 a16 a17 a18 a19 a20 a21 a22 a23 a24 a25, ¬ i = s + a0 + a1 + a2 + a3 + a4 + a5 + a6 + a7 + a8 + a9 + a10 + a11 + a12 + a13 + a14 + a15 + a16 + a17 + a18 + a19 + a20 + a21 + a22 + a23 + a24 + a25) ∧ (∀ a0 a1 a2 a3 a4 a5 a6 a7 a8 a9 a10 a11 a12 a13 a14 a15 a16 a17 a18 a19 a20 a21 a22 a23 a24 a25, ¬ s + a0 + a1 + a2 + a3 + a4 + a5 + a6 + a7 + a8 + a9 + a10 + a11 + a12 + a13 + a14 + a15 + a16 + a17 + a18 + a19 + a20 + a21 + a22 + a23 + a24 + a25 = i) ∧ (∀ a0 a1 a2 a3 a4 a5 a6 a7 a8 a9 a10 a11 a12 a13 a14 a15 a16 a17 a18 a19 a20 a21 a22 a23 a24 a25 a26, ¬ i = s + a0 + a1 + a2 + a3 + a4 + a5 + a6 + a7 + a8 + a9 + a10 + a11 + a12 + a13 + a14 + a15 + a16 + a17 + a18 + a19 + a20 + a21 + a22 + a23 + a24 + a25 + a26) ∧ (∀ a0 a1 a2 a3 a4 a5 a6 a7 a8 a9 a10 a11 a12 a13 a14 a15 a16 a17 a18 a19 a20 a21 a22 a23 a24 a25 a26, ¬ s + a0 + a1 + a2 + a3 + a4 + a5 + a6 + a7 + a8 + a9 + a10 + a11 + a12 + a13 + a14 + a15 + a16 + a17 + a18 + a19 + a20 + a21 + a22 + a23 + a24 + a25 + a26 = i) ∧ (∀ a0 a1 a2 a3 a4 a5 a6 a7 a8 a9 a10 a11 a12 a13 a14 a15 a16 a17 a18 a19 a20 a21 a22 a23 a24 a25 a26 a27, ¬ i = s + a0 + a1 + a2 + a3 + a4 + a5 + a6 + a7 + a8 + a9 + a10 + a11 + a12 + a13 + a14 + a15 + a16 + a17 + a18 + a19 + a20 + a21 + a22 + a23 + a24 + a25 + a26 + a27) ∧ (∀ a0 a1 a2 a3 a4 a5 a6 a7 a8 a9 a10 a11 a12 a13 a14 a15 a16 a17 a18 a19 a20 a21 a22 a23 a24 a25 a26 a27, ¬ s + a0 + a1 + a2 + a3 + a4 + a5 + a6 + a7 + a8 + a9 + a10 + a11 + a12 + a13 + a14 + a15 + a16 + a17 + a18 + a19 + a20 + a21 + a22 + a23 + a24 + a25 + a26 + a27 = i) ∧ (∀ a0 a1 a2 a3 a4 a5 a6 a7 a8 a9 a10 a11 a12 a13 a14 a15 a16 a17 a18 a19 a20 a21 a22 a23 a24 a25 a26 a27 a28, ¬ i = s + a0 + a1 + a2 + a3 + a4 + a5 + a6 + a7 + a8 + a9 + a10 + a11 + a12 + a13 + a14 + a15 + a16 + a17 + a18 + a19 + a20 + a21 + a22 + a23 + a24 + a25 + a26 + a27 + a28) ∧ (∀ a0 a1 a2 a3 a4 a5 a6 a7 a8 a9 a10 a11 a12 a13 a14 a15 a16 a17 a18 a19 a20 a21 a22 a23 a24 a25 a26 a27 a28, ¬ s + a0 + a1 + a2 + a3 + a4 + a5 + a6 + a7 + a8 + a9 + a10 + a11 + a12 + a13 + a14 + a15 + a16 + a17 + a18 + a19 + a20 + a21 + a22 + a23 + a24 + a25 + a26 + a27 + a28 = i) ∧ (∀ a0 a1 a2 a3 a4 a5 a6 a7 a8 a9 a10 a11 a12 a13 a14 a15 a16 a17 a18 a19 a20 a21 a22 a23 a24 a25 a26 a27 a28 a29, ¬ i = s + a0 + a1 + a2 + a3 + a4 + a5 + a6 + a7 + a8 + a9 + a10 + a11 + a12 + a13 + a14 + a15 + a16 + a17 + a18 + a19 + a20 + a21 + a22 + a23 + a24 + a25 + a26 + a27 + a28 + a29) ∧ (∀ a0 a1 a2 a3 a4 a5 a6 a7 a8 a9 a10 a11 a12 a13 a14 a15 a16 a17 a18 a19 a20 a21 a22 a23 a24 a25 a26 a27 a28 a29, ¬ s + a0 + a1 + a2 + a3 + a4 + a5 + a6 + a7 + a8 + a9 + a10 + a11 + a12 + a13 + a14 + a15 + a16 + a17 + a18 + a19 + a20 + a21 + a22 + a23 + a24 + a25 + a26 + a27 + a28 + a29 = i) := by
  refine ⟨?_, ?_, ?_, ?_, ?_, ?_, ?_, ?_, ?_, ?_, ?_, ?_, ?_, ?_, ?_, ?_, ?_, ?_, ?_, ?_, ?_, ?_, ?_, ?_, ?_, ?_, ?_, ?_, ?_, ?_, ?_, ?_, ?_, ?_, ?_, ?_, ?_, ?_, ?_, ?_, ?_, ?_, ?_, ?_, ?_, ?_, ?_, ?_, ?_, ?_, ?_, ?_, ?_, ?_, ?_, ?_, ?_, ?_, ?_, ?_, ?_, ?_⟩ <;> omega
end Go.Proofs.YtginfkadmjikhaaGreatDoor.E
namespace Go.Proofs.YtginfkadmjikhaaGreatDoor.E
open Go.RowKit Go.Proofs
set_option linter.unusedVariables false
set_option linter.unusedSimpArgs false
set_option maxRecDepth 100000
set_option maxHeartbeats 2000000
abbrev recovT (q : S.Disk × List S.Rec × Int) : AV := .tup [.agg (diskC true q.1), .lst false 7 (q.2.1.map (recC false)), Int' q.2.2]
theorem disk_RecoverT (d : S.Disk) : C Tryz.prog 68 [.agg (diskC false d)] (recovT (S.recoverDisk d)) [] := by
  have hc := hid (disk_Check d)
  unfold S.recoverDisk
  by_cases h : S.checkDisk d = 0
  rotate_left
  · rw [if_pos h]
    generalize S.checkDisk d = e at *
    have he : decide (e = 0) = false := by simp [h]
    refine C_inline [] Tryz.func68 (fun _ _ => by kernel_rfl) rfl (by kernel_rfl) (by rfl) (by decide) (by rfl) (by rfl) (by rfl) ?_
    simp -dsimp -implicitDefEqProofs [-getElem?_pos, -List.map_append, -List.map_set, List.getElem?_cons_zero, List.getElem?_cons_succ]
    refine call_CC (hc.out) ?_
    simp -dsimp -implicitDefEqProofs [-getElem?_pos, -List.map_append, -List.map_set, List.getElem?_cons_zero, List.getElem?_cons_succ, he]
    exact ends_ali outL outL rfl
  rw [if_neg (by simp [h])]
  obtain ⟨k1, k2, -⟩ := checkDisk_ok h
  rw [h] at hc
  obtain ⟨a, b⟩ := d
  unfold S.kept
  simp only at k1 k2 hc ⊢
  have l1 := disk_lines_own a 80 (by omega)
  have r1 := S.lines_room a (m := 80) (by omega)
  generalize S.lines a 80 = p at *
  obtain ⟨xs, left1, e1⟩ := p
  simp only at l1 r1 ⊢
  have l2 := disk_lines b (80 - (xs.length : Int)) (by omega)
  have r2 := S.lines_room b (m := 80 - (xs.length : Int)) (by omega)
  have r3 := (S.lines_left b (80 - (xs.length : Int))).1
  generalize S.lines b (80 - (xs.length : Int)) = q at *
  obtain ⟨ys, left2, e2⟩ := q
  simp only at l2 r2 r3 ⊢
  have em : (b.length : Int) - left2 = ((b.length - left2 : Nat) : Int) := by omega
  rw [em] at l2
  have hm : b.length - left2 ≤ b.length := by omega
  generalize b.length - left2 = m at *
  have hw : IntKind.i64.wrap ((80 : Int) - xs.length) = (80 : Int) - xs.length := wrap_ok (by omega)
  have c1 := hid (concat_bytes a (b.take m) (by omega) (by simp; omega))
  have f1 : decide (100000000 < ys.length) = false := by simp; omega
  have f2 : decide (xs.length ≤ 100000000) = true := by simp; omega
  replace l2 := hid l2
  clear r1 r2 r3 em h k1 k2
  rcases l1 with l1 | ⟨hx, l1⟩
  · replace l1 := hid l1
    refine C_inline [] Tryz.func68 (fun _ _ => by kernel_rfl) rfl (by kernel_rfl) (by rfl) (by decide) (by rfl) (by rfl) (by rfl) ?_
    simp -dsimp -implicitDefEqProofs [-getElem?_pos, -List.map_append, -List.map_set, List.getElem?_cons_zero, List.getElem?_cons_succ]
    refine call_CC (hc.out) ?_
    simp -dsimp -implicitDefEqProofs [-getElem?_pos, -List.map_append, -List.map_set, List.getElem?_cons_zero, List.getElem?_cons_succ]
    refine call_CC (l1.out) ?_
    simp -dsimp -implicitDefEqProofs [-getElem?_pos, -List.map_append, -List.map_set, List.getElem?_cons_zero, List.getElem?_cons_succ, hw]
    refine call_CC (l2.out) ?_
    simp -dsimp -implicitDefEqProofs [-getElem?_pos, -List.map_append, -List.map_set, List.getElem?_cons_zero, List.getElem?_cons_succ, hm]
    refine call_CC (c1.out) ?_
    simp -dsimp -implicitDefEqProofs [-getElem?_pos, -List.map_append, -List.map_set, List.getElem?_cons_zero, List.getElem?_cons_succ, f1, f2]
    exact ends_ali (OutL.lst (fun h => h) (OutL.nl (OutL.nil _))) (OutL.recs rfl ⟨rfl, by simp⟩ (by simp) (OutL.nil _)) rfl
  · subst hx
    replace l1 := hid l1
    simp only [List.length_nil] at hw
    refine C_inline [] Tryz.func68 (fun _ _ => by kernel_rfl) rfl (by kernel_rfl) (by rfl) (by decide) (by rfl) (by rfl) (by rfl) ?_
    simp -dsimp -implicitDefEqProofs [-getElem?_pos, -List.map_append, -List.map_set, List.getElem?_cons_zero, List.getElem?_cons_succ]
    refine call_CC (hc.out) ?_
    simp -dsimp -implicitDefEqProofs [-getElem?_pos, -List.map_append, -List.map_set, List.getElem?_cons_zero, List.getElem?_cons_succ]
    refine call_CC (l1.out) ?_
    simp -dsimp -implicitDefEqProofs [-getElem?_pos, -List.map_append, -List.map_set, List.getElem?_cons_zero, List.getElem?_cons_succ, hw]
    refine call_CC (l2.out) ?_
    simp -dsimp -implicitDefEqProofs [-getElem?_pos, -List.map_append, -List.map_set, List.getElem?_cons_zero, List.getElem?_cons_succ, hm]
    refine call_CC (c1.out) ?_
    simp -dsimp -implicitDefEqProofs [-getElem?_pos, -List.map_append, -List.map_set, List.getElem?_cons_zero, List.getElem?_cons_succ, f1, f2]
    exact ends_ali (OutL.lst (fun h => h) (OutL.nl (OutL.nil _))) (OutL.recs rfl ⟨rfl, rfl⟩ (by simp) (OutL.nil _)) rfl
theorem recoverT_eq {d x : S.Disk} {l : List S.Rec} {e : Int} (h : S.recoverDisk d = (x, l, e)) : C Tryz.prog 68 [.agg (diskC false d)] (recovT (x, l, e)) [] := by
  have := disk_RecoverT d
  rw [h] at this
  exact this
end Go.Proofs.YtginfkadmjikhaaGreatDoor.E
namespace Go.Proofs.YtginfkadmjikhaaGreatDoor.E
open Go.RowKit Go.Proofs
set_option linter.unusedVariables false
set_option linter.unusedSimpArgs false
set_option maxRecDepth 100000
set_option maxHeartbeats 4000000
theorem setCells_setRow {w : World} {b o : Nat} {cur : Array Value} {ty : TypeId} {vs : List Value} (hb : w.heap[b]? = some (.cells cur ty (0, 0))) (hl : o + vs.length ≤ cur.size) (h1 : ∀ v, v ∈ vs → v.oneCell' = true) :
    w.setCells b o vs = w.setRow b (cur.toList.take o ++ vs ++ cur.toList.drop (o + vs.length)).toArray := by
  have hcell : ∀ j, j < vs.length → w.cell? ⟨b, o + j, none⟩ = cur[o + j]? := fun j hj => by simp [World.cell?, hb]
  have r1 := run_storeCells_cells (P := Tryz.prog) b o vs 0 w (fun j hj => by
      rw [Nat.add_zero, hcell j hj, Array.getElem?_eq_getElem (by omega)]; rfl) (fun j hj => by simp [World.frozen?, hb]) h1
  have r2 := run_storeCells_at Tryz.prog b o ty vs 0 cur w hb (by omega) h1
  rw [r1] at r2
  simp only [Nat.add_zero] at r2
  injection r2
theorem run_clear_row {P : Program} (w : World) (t e ty : TypeId) (z : Value) (ht : P.underlying t = some (.slice e)) (hv : ∀ w, (zeroValue e).run P w = .ok z w) (b o n c : Nat) (hn : 0 < n)
    (h1 : ∀ v, v ∈ (Builtin.zeroCells z.cells n).toList → v.oneCell' = true)
    (hc : ∀ j, j < (Builtin.zeroCells z.cells n).toList.length → (w.cell? ⟨b, o + j, none⟩).isSome = true) (hf : ∀ j, j < (Builtin.zeroCells z.cells n).toList.length → w.frozen? ⟨b, o + j, none⟩ = false) :
    (Builtin.clear_ #[t] ty #[.slice (some ⟨b, o, none⟩) n c]).run P w = .ok (.tuple #[]) (w.setCells b o (Builtin.zeroCells z.cells n).toList) := by
  have hst := run_storeCells_cells (P := P) b o (Builtin.zeroCells z.cells n).toList 0 w (by simpa using hc) (by simpa using hf) h1
  simp only [Nat.add_zero] at hst
  obtain ⟨m, rfl⟩ : ∃ m, n = m + 1 := ⟨n - 1, by omega⟩
  simp [Builtin.clear_, run_underlying ht, hv, hst]
theorem info_mail : (Tryz.prog.info? 107).map (fun i => (i.zero, i.size, i.bytes)) = some (some (.agg #[.bool false, .int .i64 0, .int .i64 0, .int .i64 0, .int .i64 0, .int .i64 0, .int .i64 0, .slice none 0 0, .int .i64 0, .int .i64 0, .slice none 0 0]), 11, 120) := by kernel_rfl
theorem mail_Delete_walk (w : World) (b cap n k j : Nat) (hj : j = k + 1) (cur : Array Value) (hb : w.heap[b]? = some (.cells cur 107 (0, 0))) (hsz : cur.size = cap * 11) (hcap : n ≤ cap) (hm : cap ≤ maxLen) (hk : k < n) (h1c : ∀ u, u ∈ cur.toList.take (n * 11) → u.oneCell' = true) :
    Calls Tryz.prog 141 #[.slice (some ⟨b, 0, none⟩) n cap, .int .i64 k, .int .i64 j] w fun e w' => e = .returned (.slice (some ⟨b, 0, none⟩) (n - 1) cap) ∧ ∃ cur', w' = w.drew.setRow b cur' ∧ cur'.size = cap * 11 ∧
      cur'.toList.take ((n - 1) * 11) = cur.toList.take (k * 11) ++ (cur.toList.take (n * 11)).drop (j * 11) := by
  obtain ⟨i0, hi0, hz0, hz1, hz2⟩ := info_parts info_mail
  have hm' : cap ≤ 9223372036854775807 := by unfold maxLen at hm; omega
  obtain ⟨news, hnews⟩ : ∃ news, news = (cur.toList.take (n * 11)).drop (j * 11) := ⟨_, rfl⟩
  have hlen : news.length = (n - j) * 11 := by rw [hnews]; simp; omega
  have hget : ∀ t u, news[t]? = some u → cur[j * 11 + t]? = some u := by
    intro t u hu
    rw [hnews, List.getElem?_drop, List.getElem?_take] at hu
    split at hu
    · simpa using hu
    · cases hu
  have hdb : w.drew.heap[b]? = some (.cells cur 107 (0, 0)) := hb
  obtain ⟨A, hA, hsrc⟩ : ∃ A : Addr, (if cap = j then some (⟨b, 0, none⟩ : Addr) else some ⟨b, j * 11, none⟩) = some A ∧ Hid (∀ t u, news[t]? = some u → w.drew.cell? (A.add t) = some u) := by
    by_cases h : cap = j
    · refine ⟨⟨b, 0, none⟩, by simp [h], hid fun t u hu => ?_⟩
      have h0 : news.length = 0 := by rw [hlen]; omega
      rw [List.length_eq_zero_iff.1 h0] at hu
      simp at hu
    · refine ⟨⟨b, j * 11, none⟩, by simp [h], hid fun t u hu => ?_⟩
      rw [addr_add]
      simp only [World.cell?, hdb]
      exact hget t u hu

  have s1 : Hid (news.length = (n - j) * 11) := hid hlen
  have s2 : Hid (∀ u ∈ news, u.oneCell' = true) := hid fun u hu => by rw [hnews] at hu; exact h1c u (List.mem_of_mem_drop hu)
  have s3 : Hid (∀ t, t < news.length → (w.drew.cell? ⟨b, 0 + k * 11 + t, none⟩).isSome = true ∧ w.drew.frozen? ⟨b, 0 + k * 11 + t, none⟩ = false) := hid fun t ht => by
    rw [hlen] at ht
    have hlt : 0 + k * 11 + t < cur.size := by omega
    refine ⟨?_, by simp [World.frozen?, hdb]⟩
    simp only [World.cell?, hdb]
    rw [Array.getElem?_eq_getElem hlt]; rfl
  obtain ⟨W1, hW1⟩ : ∃ W1, W1 = w.drew.setCells b (0 + k * 11) news := ⟨_, rfl⟩
  have hW : Hid (W1 = w.drew.setCells b (0 + k * 11) news) := hid hW1
  have hl0 : 0 + k * 11 + news.length ≤ cur.size := by rw [hlen]; omega
  rw [setCells_setRow hdb hl0 s2.out] at hW1
  obtain ⟨cur1, hcur1⟩ : ∃ cur1, cur1 = (cur.toList.take (0 + k * 11) ++ news ++ cur.toList.drop (0 + k * 11 + news.length)).toArray := ⟨_, rfl⟩
  rw [← hcur1] at hW1
  have hsz1 : cur1.size = cap * 11 := by rw [hcur1]; simp [hlen]; omega
  have hb1 : W1.heap[b]? = some (.cells cur1 107 (0, 0)) := by rw [hW1]; exact setRow_heap w.drew b cur cur1 _ _ hdb
  obtain ⟨z, hz⟩ : ∃ z, z = (Value.agg #[.bool false, .int .i64 0, .int .i64 0, .int .i64 0, .int .i64 0, .int .i64 0, .int .i64 0, .slice none 0 0, .int .i64 0, .int .i64 0, .slice none 0 0]) := ⟨_, rfl⟩
  have hzl : (Builtin.zeroCells z.cells 1).toList.length = 11 := by rw [hz]; simp [zeroCells_size, Value.cells]
  have hz1c : ∀ v, v ∈ (Builtin.zeroCells z.cells 1).toList → v.oneCell' = true := by
    rw [hz]
    have : ((Builtin.zeroCells (Value.cells (.agg #[.bool false, .int .i64 0, .int .i64 0, .int .i64 0, .int .i64 0, .int .i64 0, .int .i64 0, .slice none 0 0, .int .i64 0, .int .i64 0, .slice none 0 0])) 1).toList.all fun v => v.oneCell') = true := by decide +kernel
    exact List.all_eq_true.1 this
  have hcl : ∀ ty c, (Builtin.clear_ #[35] ty #[.slice (some ⟨b, (k + (n - j)) * 11, none⟩) (n - (k + (n - j))) c]).run Tryz.prog W1 = .ok (.tuple #[]) (W1.setCells b ((k + (n - j)) * 11) (Builtin.zeroCells z.cells 1).toList) := fun ty c => by
    rw [show n - (k + (n - j)) = 1 by omega]
    exact run_clear_row W1 _ _ ty z Tryz.underlying35 (fun w => by rw [hz]; simp [zeroValue, typeInfo, hi0, hz0]) b _ 1 c (by omega) hz1c
      (fun j hj => by
        rw [hzl] at hj
        simp only [World.cell?, hb1]
        rw [Array.getElem?_eq_getElem (by omega)]; rfl) (fun j hj => by simp [World.frozen?, hb1])
  have hic : k ≤ cap := by omega
  have hjn : j ≤ n := by omega
  have hkj : k ≠ j := by omega
  have hkj2 : k < j := by omega
  have hkj3 : k ≤ j := by omega
  have hne1 : ¬ cap = k + (n - j) := by omega
  have hle1 : k + (n - j) ≤ n := by omega
  have hj' := hid hj
  have hjc : j ≤ cap := by omega
  have hsz' := hid hsz
  have hdb' := hid hdb
  have hb' := hid hb
  have hb1' := hid hb1
  have hzl' := hid hzl
  have hnews' := hid hnews
  have hW1' := hid hW1
  have hcur1' := hid hcur1
  have hsz1' := hid hsz1
  clear hj hsz hdb hb hb1 hW1 hcur1 hsz1 hget hnews hlen hzl hl0 h1c
  go_enter Tryz.func141, Tryz.ntmps141
  go_wp2_with fail
  go_region_law (refine step_append_room rfl (.tmp 22) (.tmp 25) 35 rfl 107 i0 11 Tryz.underlying35 hi0 hz1 b 0 k cap (by simp [Act.eval, Act.put]) A (n - j) (cap - j) news (by simp [Act.eval, Act.put]) s1.out hsrc.out s2.out (by omega) s3.out ?_; rw [← hW.out])
  go_wp2_with fail
  go_ret
  refine ⟨by rw [show n - 1 = k + (n - j) by have := hj'.out; omega]; rfl, ?_⟩
  have hjo := hj'.out
  have hszo := hsz'.out
  have hs1o := hsz1'.out
  have hno := s1.out
  have hnj : n - j = n - 1 - k := by omega
  obtain ⟨zs, hzs⟩ : ∃ zs, zs = (Builtin.zeroCells #[.bool false, .int .i64 0, .int .i64 0, .int .i64 0, .int .i64 0, .int .i64 0, .int .i64 0, .slice none 0 0, .int .i64 0, .int .i64 0, .slice none 0 0] 1).toList := ⟨_, rfl⟩
  have hz3 : (Builtin.zeroCells z.cells 1).toList = zs := by rw [hz, hzs]; rfl
  rw [hz3] at hzl' hz1c
  rw [← hzs]
  have hzlo := hzl'.out
  refine ⟨(cur1.toList.take ((k + (n - j)) * 11) ++ zs ++ cur1.toList.drop ((k + (n - j)) * 11 + zs.length)).toArray, ?_, ?_, ?_⟩
  · rw [setCells_setRow hb1'.out (by rw [hzlo]; omega) hz1c, hW1'.out, setRow_setRow]
  · simp only [List.size_toArray, List.length_append, List.length_take, List.length_drop, Array.length_toList]
    omega
  · have e1 : (n - 1) * 11 = (k + (n - j)) * 11 := by omega
    simp only
    rw [e1, List.append_assoc, List.take_append_of_le_length (by simp; omega), List.take_take, Nat.min_self, hcur1'.out]
    simp only [Nat.zero_add]
    rw [List.take_append_of_le_length (by simp; omega)]
    rw [List.take_of_length_le (by simp; omega), hnews'.out]
theorem take_flat {rows : List (List AV)} {s : Nat} (hs : ∀ r, r ∈ rows → r.length = s) (k : Nat) (hk : k < rows.length) : (rows.eraseIdx k).flatten = rows.flatten.take (k * s) ++ rows.flatten.drop ((k + 1) * s) := by
  rw [List.eraseIdx_eq_take_drop_succ, List.flatten_append, flatten_take hs, flatten_drop hs]
theorem mail_Delete (rows : List (List AV)) (i k n0 : Nat) (e : Int) (he : e = (k : Int) + 1) (h : Heap) (hi : h i = some ⟨107, 11, rows⟩) (hk : k < rows.length) :
    CS Tryz.prog 141 [.own i 0 rows.length, Int' k, Int' e] h n0 (fun h' n' r => h' = upd h i (some ⟨107, 11, rows.eraseIdx k⟩) ∧ n' = n0 ∧ r = .own i 0 (rows.length - 1)) := by
  refine ⟨fun _ _ => by kernel_rfl, fun B W0 ρ ok w vs H hv => ?_⟩
  obtain ⟨v0, v1, v2, rfl, a0, a1, a2⟩ : ∃ v0 v1 v2, vs = [v0, v1, v2] ∧ V B ρ ok w (.own i 0 rows.length) v0 ∧ V B ρ ok w (Int' k) v1 ∧ V B ρ ok w (Int' e) v2 := by
    obtain ⟨h1, h2⟩ := hv
    match vs, h1, h2 with
    | [u, v, x], _, h2 => exact ⟨u, v, x, rfl, h2 0 _ _ rfl rfl, h2 1 _ _ rfl rfl, h2 2 _ _ rfl rfl⟩
  rcases H.row i _ hi with ⟨_, q⟩ | ⟨b, cap, cur, p1, p2, p3, p4, p5, p6, p7, p8, p9, p10⟩
  · simp only at q; rw [q] at hk; simp at hk
  simp only at p1 p4 p5 p6 p9 p10
  obtain rfl : v1 = .int .i64 k := by cases a1; rfl
  obtain rfl : v2 = .int .i64 e := by cases a2; rfl
  obtain rfl : v0 = .slice (some ⟨b, 0, none⟩) rows.length cap := by
    generalize hn : rows.length = n at *
    cases a0 with
    | own0 hp => omega
    | own hp h1 h2 =>
      rw [p1] at hp
      simp only [Option.some.injEq, Prod.mk.injEq] at hp
      obtain ⟨rfl, rfl, rfl⟩ := hp
      simp
  subst he
  have hw := mail_Delete_walk w b cap rows.length k (k + 1) rfl cur p4 p5 p6 p7 hk p10.2.1
  refine Calls.mono (by simpa using hw) ?_
  rintro e w' ⟨rfl, cur', rfl, hs', ht⟩
  have hbd : w.drew.heap[b]? = some (.cells cur 107 (0, 0)) := p4
  have Hd : HRel B W0 ρ ok h n0 w.drew := by
    refine ⟨H.below.drew, H.base, H.okb, H.fresh, fun i e he => ?_, H.inj⟩
    rcases H.row i e he with h | ⟨b, cap, cur, q1, q2, q3, q4, q5, q6, q7, q8, q9, q10⟩
    · exact Or.inl h
    · exact Or.inr ⟨b, cap, cur, q1, q2, q3, q4, q5, q6, q7, q8, q9, q10.1, q10.2.1, fun j c u hc hu => (q10.2.2 j c u hc hu).mono (fun _ _ => rfl) (fun b hb => ⟨hb, rfl⟩)⟩
  have hcr : CR B ρ ok w.drew (rows.eraseIdx k).flatten (cur'.toList.take ((rows.eraseIdx k).length * 11)) := by
    have hc0 : CR B ρ ok w.drew rows.flatten (cur.toList.take (rows.length * 11)) := ⟨p10.1, p10.2.1, fun j c u hc hu => (p10.2.2 j c u hc hu).mono (fun _ _ => rfl) (fun b hb => ⟨hb, rfl⟩)⟩
    rw [List.length_eraseIdx, if_pos hk, ht, take_flat p9 k hk]
    have e1 : cur.toList.take (k * 11) = (cur.toList.take (rows.length * 11)).take (k * 11) := by rw [List.take_take, Nat.min_eq_left (by omega)]
    rw [e1]
    exact (hc0.take _).append (hc0.drop _)
  obtain ⟨g1, g2⟩ := Hd.rewrite hi (rows := rows.eraseIdx k) (cur' := cur') p1 p2 p3 hbd hs' (by rw [List.length_eraseIdx, if_pos hk]; omega) p7 (by omega) (fun r hr => p9 r (List.mem_of_mem_eraseIdx hr)) hcr
  refine ⟨_, _, n0, .own i 0 (rows.length - 1), ρ, ok, rfl, ⟨rfl, rfl, rfl⟩, Nat.le_refl _, g1, ?_, ⟨fun _ _ => rfl, fun _ _ => rfl, fun x hx => ⟨(g2.stay x hx).1, (g2.stay x hx).2⟩, g2.new, g2.size⟩⟩
  have := V.own (B := B) (ρ := ρ) (ok := ok) (w := w.drew.setRow b cur') (i := i) (o := 0) (n := rows.length - 1) p1 (by omega) p7
  simpa using this
end Go.Proofs.YtginfkadmjikhaaGreatDoor.E
