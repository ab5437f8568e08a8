/- P1: Pz: names below s are none of s and more: far. (Printed by a program.) Px: disk.Recover: the disk that it gives is new. Pa: slices.Delete on a row of mails of one's own. Pb: lists of hands, of mails; worlds: new, compared; mail checked. Pc: worlds checked. Pd: worlds copied. -/
import Derived.Test.YtadmfokicjjglaaGreatDoorX5
import Derived.Test.YtadmfokicjjglaaGreatDoorQ1
import Derived.Test.YtadmfokicjjglaaGreatDoorX3
import Derived.Test.YtadmfokicjjglaaGreatDoorBase
import Derived.Deep.RegionLaw
import Derived.Lib.SliceRun
import Derived.Laws.IdiomCopy
import Derived.Test.YtadmfokicjjglaaGreatDoorRd3
import Derived.Test.YtadmfokicjjglaaGreatDoorK1
namespace Go.Proofs.YtadmfokicjjglaaGreatDoor.E
theorem far {i s : Nat} (h : i < s) : ¬ i = s /\ ¬ s = i /\ (∀ a0, ¬ i = s + a0) /\ (∀ a0, ¬ s + a0 = i) /\ (∀ a0 a1, ¬ i = s + a0 + a1) /\ (∀ a0 a1, ¬ s + a0 + a1 = i) /\ (∀ a0 a1 a2, ¬ i = s + a0 + a1 + a2) /\ (∀ a0 a1 a2, ¬ s + a0 + a1 + a2 = i) /\ (∀ a0 a1 a2 a3, ¬ i = s + a0 + a1 + a2 + a3) /\ (∀ a0 a1 a2 a3, ¬ s + a0 + a1 + a2 + a3 = i) /\ (∀ a0 a1 a2 a3 a4, ¬ i = s + a0 + a1 + a2 + a3 + a4) /\ (∀ a0 a1 a2 a3 a4, ¬ s + a0 + a1 + a2 + a3 + a4 = i) /\ (∀ a0 a1 a2 a3 a4 a5, ¬ i = s + a0 + a1 + a2 + a3 + a4 + a5) /\ (∀ a0 a1 a2 a3 a4 a5, ¬ s + a0 + a1 + a2 + a3 + a4 + a5 = i) /\ (∀ a0 a1 a2 a3 a4 a5 a6, ¬ i = s + a0 + a1 + a2 + a3 + a4 + a5 + a6) /\ (∀ a0 a1 a2 a3 a4 a5 a6, ¬ s + a0 + a1 + a2 + a3 + a4 + a5 + a6 = i) /\ (∀ a0 a1 a2 a3 a4 a5 a6 a7, ¬ i = s + a0 + a1 + a2 + a3 + a4 + a5 + a6 + a7) /\ (∀ a0 a1 a2 a3 a4 a5 a6 a7, ¬ s + a0 + a1 + a2 + a3 + a4 + a5 + a6 + a7 = i) /\ (∀ a0 a1 a2 a3 a4 a5 a6 a7 a8, ¬ i = s + a0 + a1 + a2 + a3 + a4 + a5 + a6 + a7 + a8) /\ (∀ a0 a1 a2 a3 a4 a5 a6 a7 a8, ¬ s + a0 + a1 + a2 + a3 + a4 + a5 + a6 + a7 + a8 = i) /\ (∀ a0 a1 a2 a3 a4 a5 a6 a7 a8 a9, ¬ i = s + a0 + a1 + a2 + a3 + a4 + a5 + a6 + a7 + a8 + a9) /\ (∀ a0 a1 a2 a3 a4 a5 a6 a7 a8 a9, ¬ s + a0 + a1 + a2 + a3 + a4 + a5 + a6 + a7 + a8 + a9 = i) /\ (∀ a0 a1 a2 a3 a4 a5 a6 a7 a8 a9 a10, ¬ i = s + a0 + a1 + a2 + a3 + a4 + a5 + a6 + a7 + a8 + a9 + a10) /\ (∀ a0 a1 a2 a3 a4 a5 a6 a7 a8 a9 a10, ¬ s + a0 + a1 + a2 + a3 + a4 + a5 + a6 + a7 + a8 + a9 + a10 = i) /\ (∀ a0 a1 a2 a3 a4 a5 a6 a7 a8 a9 a10 a11, ¬ i = s + a0 + a1 + a2 + a3 + a4 + a5 + a6 + a7 + a8 + a9 + a10 + a11) /\ (∀ a0 a1 a2 a3 a4 a5 a6 a7 a8 a9 a10 a11, ¬ s + a0 + a1 + a2 + a3 + a4 + a5 + a6 + a7 + a8 + a9 + a10 + a11 = i) /\ (∀ a0 a1 a2 a3 a4 a5 a6 a7 a8 a9 a10 a11 a12, ¬ i = s + a0 + a1 + a2 + a3 + a4 + a5 + a6 + a7 + a8 + a9 + a10 + a11 + a12) /\ (∀ a0 a1 a2 a3 a4 a5 a6 a7 a8 a9 a10 a11 a12, ¬ s + a0 + a1 + a2 + a3 + a4 + a5 + a6 + a7 + a8 + a9 + a10 + a11 + a12 = i) /\ (∀ a0 a1 a2 a3 a4 a5 a6 a7 a8 a9 a10 a11 a12 a13, ¬ i = s + a0 + a1 + a2 + a3 + a4 + a5 + a6 + a7 + a8 + a9 + a10 + a11 + a12 + a13) /\ (∀ a0 a1 a2 a3 a4 a5 a6 a7 a8 a9 a10 a11 a12 a13, ¬ s + a0 + a1 + a2 + a3 + a4 + a5 + a6 + a7 + a8 + a9 + a10 + a11 + a12 + a13 = i) /\ (∀ a0 a1 a2 a3 a4 a5 a6 a7 a8 a9 a10 a11 a12 a13 a14, ¬ i = s + a0 + a1 + a2 + a3 + a4 + a5 + a6 + a7 + a8 + a9 + a10 + a11 + a12 + a13 + a14) /\ (∀ a0 a1 a2 a3 a4 a5 a6 a7 a8 a9 a10 a11 a12 a13 a14, ¬ s + a0 + a1 + a2 + a3 + a4 + a5 + a6 + a7 + a8 + a9 + a10 + a11 + a12 + a13 + a14 = i) /\ (∀ a0 a1 a2 a3 a4 a5 a6 a7 a8 a9 a10 a11 a12 a13 a14 a15, ¬ i = s + a0 + a1 + a2 + a3 + a4 + a5 + a6 + a7 + a8 + a9 + a10 + a11 + a12 + a13 + a14 + a15) /\ (∀ a0 a1 a2 a3 a4 a5 a6 a7 a8 a9 a10 a11 a12 a13 a14 a15, ¬ s + a0 + a1 + a2 + a3 + a4 + a5 + a6 + a7 + a8 + a9 + a10 + a11 + a12 + a13 + a14 + a15 = i) /\ (∀ a0 a1 a2 a3 a4 a5 a6 a7 a8 a9 a10 a11 a12 a13 a14 a15 a16, ¬ i = s + a0 + a1 + a2 + a3 + a4 + a5 + a6 + a7 + a8 + a9 + a10 + a11 + a12 + a13 + a14 + a15 + a16) /\ (∀ a0 a1 a2 a3 a4 a5 a6 a7 a8 a9 a10 a11 a12 a13 a14 a15 a16, ¬ s + a0 + a1 + a2 + a3 + a4 + a5 + a6 + a7 + a8 + a9 + a10 + a11 + a12 + a13 + a14 + a15 + a16 = i) /\ (∀ a0 a1 a2 a3 a4 a5 a6 a7 a8 a9 a10 a11 a12 a13 a14 a15 a16 a17, ¬ i = s + a0 + a1 + a2 + a3 + a4 + a5 + a6 + a7 + a8 + a9 + a10 + a11 + a12 + a13 + a14 + a15 + a16 + a17) /\ (∀ a0 a1 a2 a3 a4 a5 a6 a7 a8 a9 a10 a11 a12 a13 a14 a15 a16 a17, ¬ s + a0 + a1 + a2 + a3 + a4 + a5 + a6 + a7 + a8 + a9 + a10 + a11 + a12 + a13 + a14 + a15 + a16 + a17 = i) /\ (∀ a0 a1 a2 a3 a4 a5 a6 a7 a8 a9 a10 a11 a12 a13 a14 a15 a16 a17 a18, ¬ i = s + a0 + a1 + a2 + a3 + a4 + a5 + a6 + a7 + a8 + a9 + a10 + a11 + a12 + a13 + a14 + a15 + a16 + a17 + a18) /\ (∀ a0 a1 a2 a3 a4 a5 a6 a7 a8 a9 a10 a11 a12 a13 a14 a15 a16 a17 a18, ¬ s + a0 + a1 + a2 + a3 + a4 + a5 + a6 + a7 + a8 + a9 + a10 + a11 + a12 + a13 + a14 + a15 + a16 + a17 + a18 = i) /\ (∀ a0 a1 a2 a3 a4 a5 a6 a7 a8 a9 a10 a11 a12 a13 a14 a15 a16 a17 a18 a19, ¬ i = s + a0 + a1 + a2 + a3 + a4 + a5 + a6 + a7 + a8 + a9 + a10 + a11 + a12 + a13 + a14 + a15 + a16 + a17 + a18 + a19) /\ (∀ a0 a1 a2 a3 a4 a5 a6 a7 a8 a9 a10 a11 a12 a13 a14 a15 a16 a17 a18 a19, ¬ s + a0 + a1 + a2 + a3 + a4 + a5 + a6 + a7 + a8 + a9 + a10 + a11 + a12 + a13 + a14 + a15 + a16 + a17 + a18 + a19 = i) /\ (∀ a0 a1 a2 a3 a4 a5 a6 a7 a8 a9 a10 a11 a12 a13 a14 a15 a16 a17 a18 a19 a20, ¬ i = s + a0 + a1 + a2 + a3 + a4 + a5 + a6 + a7 + a8 + a9 + a10 + a11 + a12 + a13 + a14 + a15 + a16 + a17 + a18 + a19 + a20) /\ (∀ a0 a1 a2 a3 a4 a5 a6 a7 a8 a9 a10 a11 a12 a13 a14 a15 a16 a17 a18 a19 a20, ¬ s + a0 + a1 + a2 + a3 + a4 + a5 + a6 + a7 + a8 + a9 + a10 + a11 + a12 + a13 + a14 + a15 + a16 + a17 + a18 + a19 + a20 = i) /\ (∀ a0 a1 a2 a3 a4 a5 a6 a7 a8 a9 a10 a11 a12 a13 a14 a15 a16 a17 a18 a19 a20 a21, ¬ i = s + a0 + a1 + a2 + a3 + a4 + a5 + a6 + a7 + a8 + a9 + a10 + a11 + a12 + a13 + a14 + a15 + a16 + a17 + a18 + a19 + a20 + a21) /\ (∀ a0 a1 a2 a3 a4 a5 a6 a7 a8 a9 a10 a11 a12 a13 a14 a15 a16 a17 a18 a19 a20 a21, ¬ s + a0 + a1 + a2 + a3 + a4 + a5 + a6 + a7 + a8 + a9 + a10 + a11 + a12 + a13 + a14 + a15 + a16 + a17 + a18 + a19 + a20 + a21 = i) /\ (∀ a0 a1 a2 a3 a4 a5 a6 a7 a8 a9 a10 a11 a12 a13 a14 a15 a16 a17 a18 a19 a20 a21 a22, ¬ i = s + a0 + a1 + a2 + a3 + a4 + a5 + a6 + a7 + a8 + a9 + a10 + a11 + a12 + a13 + a14 + a15 + a16 + a17 + a18 + a19 + a20 + a21 + a22) /\ (∀ a0 a1 a2 a3 a4 a5 a6 a7 a8 a9 a10 a11 a12 a13 a14 a15 a16 a17 a18 a19 a20 a21 a22, ¬ s + a0 + a1 + a2 + a3 + a4 + a5 + a6 + a7 + a8 + a9 + a10 + a11 + a12 + a13 + a14 + a15 + a16 + a17 + a18 + a19 + a20 + a21 + a22 = i) /\ (∀ a0 a1 a2 a3 a4 a5 a6 a7 a8 a9 a10 a11 a12 a13 a14 a15 a16 a17 a18 a19 a20 a21 a22 a23, ¬ i = s + a0 + a1 + a2 + a3 + a4 + a5 + a6 + a7 + a8 + a9 + a10 + a11 + a12 + a13 + a14 + a15 + a16 + a17 + a18 + a19 + a20 + a21 + a22 + a23) /\ (∀ a0 a1 a2 a3 a4 a5 a6 a7 a8 a9 a10 a11 a12 a13 a14 a15 a16 a17 a18 a19 a20 a21 a22 a23, ¬ s + a0 + a1 + a2 + a3 + a4 + a5 + a6 + a7 + a8 + a9 + a10 + a11 + a12 + a13 + a14 + a15 + a16 + a17 + a18 + a19 + a20 + a21 + a22 + a23 = i) /\ (∀ a0 a1 a2 a3 a4 a5 a6 a7 a8 a9 a10 a11 a12 a13 a14 a15 a16 a17 a18 a19 a20 a21 a22 a23 a24, ¬ i = s + a0 + a1 + a2 + a3 + a4 + a5 + a6 + a7 + a8 + a9 + a10 + a11 + a12 + a13 + a14 + a15 + a16 + a17 + a18 + a19 + a20 + a21 + a22 + a23 + a24) /\ (∀ a0 a1 a2 a3 a4 a5 a6 a7 a8 a9 a10 a11 a12 a13 a14 a15 a16 a17 a18 a19 a20 a21 a22 a23 a24, ¬ s + a0 + a1 + a2 + a3 + a4 + a5 + a6 + a7 + a8 + a9 + a10 + a11 + a12 + a13 + a14 + a15 + a16 + a17 + a18 + a19 + a20 + a21 + a22 + a23 + a24 = i) /\ (∀ a0 a1 a2 a3 a4 a5 a6 a7 a8 a9 a10 a11 a12 a13 a14 a15 a16 a17 a18 a19 a20 a21 a22 a23 a24 a25, ¬ i = s + a0 + a1 + a2 + a3 + a4 + a5 + a6 + a7 + a8 + a9 + a10 + a11 + a12 + a13 + a14 + a15 + a16 + a17 + a18 + a19 + a20 + a21 + a22 + a23 + a24 + a25) /\ (∀ a0 a1 a2 a3 a4 a5 a6 a7 a8 a9 a10 a11 a12 a13 a14 a15 a16 a17 a18 a19 a20 a21 a22 a23 a24 a25, ¬ s + a0 + a1 + a2 + a3 + a4 + a5 + a6 + a7 + a8 + a9 + a10 + a11 + a12 + a13 + a14 + a15 + a16 + a17 + a18 + a19 + a20 + a21 + a22 + a23 + a24 + a25 = i) /\ (∀ a0 a1 a2 a3 a4 a5 a6 a7 a8 a9 a10 a11 a12 a13 a14 a15 a16 a17 a18 a19 a20 a21 a22 a23 a24 a25 a26, ¬ i = s + a0 + a1 + a2 + a3 + a4 + a5 + a6 + a7 + a8 + a9 + a10 + a11 + a12 + a13 + a14 + a15 + a16 + a17 + a18 + a19 + a20 + a21 + a22 + a23 + a24 + a25 + a26) /\ (∀ a0 a1 a2 a3 a4 a5 a6 a7 a8 a9 a10 a11 a12 a13 a14 a15 a16 a17 a18 a19 a20 a21 a22 a23 a24 a25 a26, ¬ s + a0 + a1 + a2 + a3 + a4 + a5 + a6 + a7 + a8 + a9 + a10 + a11 + a12 + a13 + a14 + a15 + a16 + a17 + a18 + a19 + a20 + a21 + a22 + a23 + a24 + a25 + a26 = i) /\ (∀ a0 a1 a2 a3 a4 a5 a6 a7 a8 a9 a10 a11 a12 a13 a14 a15 a16 a17 a18 a19 a20 a21 a22 a23 a24 a25 a26 a27, ¬ i = s + a0 + a1 + a2 + a3 + a4 + a5 + a6 + a7 + a8 + a9 + a10 + a11 + a12 + a13 + a14 + a15 + a16 + a17 + a18 + a19 + a20 + a21 + a22 + a23 + a24 + a25 + a26 + a27) /\ (∀ a0 a1 a2 a3 a4 a5 a6 a7 a8 a9 a10 a11 a12 a13 a14 a15 a16 a17 a18 a19 a20 a21 a22 a23 a24 a25 a26 a27, ¬ s + a0 + a1 + a2 + a3 + a4 + a5 + a6 + a7 + a8 + a9 + a10 + a11 + a12 + a13 + a14 + a15 + a16 + a17 + a18 + a19 + a20 + a21 + a22 + a23 + a24 + a25 + a26 + a27 = i) /\ (∀ a0 a1 a2 a3 a4 a5 a6 a7 a8 a9 a10 a11 a12 a13 a14 a15 a16 a17 a18 a19 a20 a21 a22 a23 a24 a25 a26 a27 a28, ¬ i = s + a0 + a1 + a2 + a3 + a4 + a5 + a6 + a7 + a8 + a9 + a10 + a11 + a12 + a13 + a14 + a15 + a16 + a17 + a18 + a19 + a20 + a21 + a22 + a23 + a24 + a25 + a26 + a27 + a28) /\ (∀ a0 a1 a2 a3 a4 a5 a6 a7 a8 a9 a10 a11 a12 a13 a14 a15 a16 a17 a18 a19 a20 a21 a22 a23 a24 a25 a26 a27 a28, ¬ s + a0 + a1 + a2 + a3 + a4 + a5 + a6 + a7 + a8 + a9 + a10 + a11 + a12 + a13 + a14 + a15 + a16 + a17 + a18 + a19 + a20 + a21 + a22 + a23 + a24 + a25 + a26 + a27 + a28 = i) /\ (∀ a0 a1 a2 a3 a4 a5 a6 a7 a8 a9 a10 a11 a12 a13 a14 a15 a16 a17 a18 a19 a20 a21 a22 a23 a24 a25 a26 a27 a28 a29, ¬ i = s + a0 + a1 + a2 + a3 + a4 + a5 + a6 + a7 + a8 + a9 + a10 + a11 + a12 + a13 + a14 + a15 + a16 + a17 + a18 + a19 + a20 + a21 + a22 + a23 + a24 + a25 + a26 + a27 + a28 + a29) /\ (∀ a0 a1 a2 a3 a4 a5 a6 a7 a8 a9 a10 a11 a12 a13 a14 a15 a16 a17 a18 a19 a20 a21 a22 a23 a24 a25 a26 a27 a28 a29, ¬ s + a0 + a1 + a2 + a3 + a4 + a5 + a6 + a7 + a8 + a9 + a10 + a11 + a12 + a13 + a14 + a15 + a16 + a17 + a18 + a19 + a20 + a21 + a22 + a23 + a24 + a25 + a26 + a27 + a28 + a29 = i) := by
 refine ⟨?_, ?_, ?_, ?_, ?_, ?_, ?_, ?_, ?_, ?_, ?_, ?_, ?_, ?_, ?_, ?_, ?_, ?_, ?_, ?_, ?_, ?_, ?_, ?_, ?_, ?_, ?_, ?_, ?_, ?_, ?_, ?_, ?_, ?_, ?_, ?_, ?_, ?_, ?_, ?_, ?_, ?_, ?_, ?_, ?_, ?_, ?_, ?_, ?_, ?_, ?_, ?_, ?_, ?_, ?_, ?_, ?_, ?_, ?_, ?_, ?_, ?_⟩ <;> omega
open Go.RowKit Go.Proofs
set_option linter.unusedVariables false
set_option linter.unusedSimpArgs false
set_option maxRecDepth 100000
set_option maxHeartbeats 2000000
abbrev recovT (q : S.Disk × List S.Rec × Int) : AV := .tup [.agg (diskC true q.1), .lst false 7 (q.2.1.map (recC false)), Int' q.2.2]
theorem disk_RecoverT (d : S.Disk) : C Tryz.prog 18 [.agg (diskC false d)] (recovT (S.recoverDisk d)) [] := by
 have hc := hid (disk_Check d);unfold S.recoverDisk;by_cases h : S.checkDisk d = 0
 rotate_left
 ·rw [if_pos h];generalize S.checkDisk d = e at *;have he : decide (e = 0) = false := by simp [h]
  refine CI Tryz.func18 ?_;refine rC hc.out ?_;refine rS he ?_;exact ends_ali outL outL rfl
 rw [if_neg (by simp [h])];obtain ⟨k1, k2, -⟩ := checkDisk_ok h;rw [h] at hc;obtain ⟨a, b⟩ := d;unfold S.kept;simp only at k1 k2 hc ⊢;have l1 := disk_lines_own a 80 (by omega);have r1 := S.lines_room a (m := 80) (by omega);generalize S.lines a 80 = p at *;obtain ⟨xs, left1, e1⟩ := p;simp only at l1 r1 ⊢;have l2 := disk_lines b (80 - (xs.length : Int)) (by omega);have r2 := S.lines_room b (m := 80 - (xs.length : Int)) (by omega);have r3 := (S.lines_left b (80 - (xs.length : Int))).1;generalize S.lines b (80 - (xs.length : Int)) = q at *;obtain ⟨ys, left2, e2⟩ := q;simp only at l2 r2 r3 ⊢;have em : (b.length : Int) - left2 = ((b.length - left2 : Nat) : Int) := by omega
 rw [em] at l2;have hm : b.length - left2 <= b.length := by omega
 generalize b.length - left2 = m at *;have hw : IntKind.i64.wrap ((80 : Int) - xs.length) = (80 : Int) - xs.length := wrap_ok (by omega);have c1 := hid (concat_bytes a (b.take m) (by omega) (by simp; omega));have f1 : decide (100000000 < ys.length) = false := by simp; omega
 have f2 : decide (xs.length <= 100000000) = true := by simp; omega
 replace l2 := hid l2;clear r1 r2 r3 em h k1 k2;rcases l1 with l1 | ⟨hx, l1⟩
 ·replace l1 := hid l1;refine CI Tryz.func18 ?_;refine rC hc.out ?_;refine rC l1.out ?_;refine rD hw l2.out ?_;refine rD hm c1.out ?_;refine rS (aN f1 f2) ?_;exact ends_ali (OutL.lst (fun h => h) (OutL.nl (OutL.nil _))) (OutL.recs rfl ⟨rfl, by simp⟩ (by simp) (OutL.nil _)) rfl
 ·subst hx;replace l1 := hid l1;simp only [List.length_nil] at hw;refine CI Tryz.func18 ?_;refine rC hc.out ?_;refine rC l1.out ?_;refine rD hw l2.out ?_;refine rD hm c1.out ?_;refine rS (aN f1 f2) ?_;exact ends_ali (OutL.lst (fun h => h) (OutL.nl (OutL.nil _))) (OutL.recs rfl ⟨rfl, rfl⟩ (by simp) (OutL.nil _)) rfl
theorem recoverT_eq {d x : S.Disk} {l : List S.Rec} {e : Int} (h : S.recoverDisk d = (x, l, e)) : C Tryz.prog 18 [.agg (diskC false d)] (recovT (x, l, e)) [] := by
 have := disk_RecoverT d;rw [h] at this;exact this
set_option maxHeartbeats 4000000
theorem setCells_setRow {w : World} {b o : Nat} {cur : Array Value} {ty : TypeId} {vs : List Value} (hb : w.heap[b]? = some (.cells cur ty (0, 0))) (hl : o + vs.length <= cur.size) (h1 : ∀ v, v ∈ vs -> v.oneCell' = true) :
  w.setCells b o vs = w.setRow b (cur.toList.take o ++ vs ++ cur.toList.drop (o + vs.length)).toArray := by
 have hcell : ∀ j, j < vs.length -> w.cell? ⟨b, o + j, none⟩ = cur[o + j]? := fun j hj => by simp [World.cell?, hb]
 have r1 := run_storeCells_cells (P := Tryz.prog) b o vs 0 w (fun j hj => by
   rw [Nat.add_zero, hcell j hj, Array.getElem?_eq_getElem (by omega)]; rfl) (fun j hj => by simp [World.frozen?, hb]) h1
 have r2 := run_storeCells_at Tryz.prog b o ty vs 0 cur w hb (by omega) h1;rw [r1] at r2;simp only [Nat.add_zero] at r2;injection r2
theorem run_clear_row {P : Program} (w : World) (t e ty : TypeId) (z : Value) (ht : P.underlying t = some (.slice e)) (hv : ∀ w, (zeroValue e).run P w = .ok z w) (b o n c : Nat) (hn : 0 < n)
  (h1 : ∀ v, v ∈ (Builtin.zeroCells z.cells n).toList -> v.oneCell' = true)
  (hc : ∀ j, j < (Builtin.zeroCells z.cells n).toList.length -> (w.cell? ⟨b, o + j, none⟩).isSome = true) (hf : ∀ j, j < (Builtin.zeroCells z.cells n).toList.length -> w.frozen? ⟨b, o + j, none⟩ = false) :
  (Builtin.clear_ #[t] ty #[.slice (some ⟨b, o, none⟩) n c]).run P w = .ok (.tuple #[]) (w.setCells b o (Builtin.zeroCells z.cells n).toList) := by
 have hst := run_storeCells_cells (P := P) b o (Builtin.zeroCells z.cells n).toList 0 w (by simpa using hc) (by simpa using hf) h1;simp only [Nat.add_zero] at hst;obtain ⟨m, rfl⟩ : ∃ m, n = m + 1 := ⟨n - 1, by omega⟩;simp [Builtin.clear_, run_underlying ht, hv, hst]
theorem info_mail : (Tryz.prog.info? 78).map (fun i => (i.zero, i.size, i.bytes)) = some (some (.agg #[.bool false, .int .i64 0, .int .i64 0, .int .i64 0, .int .i64 0, .int .i64 0, .int .i64 0, .slice none 0 0, .int .i64 0, .int .i64 0, .slice none 0 0]), 11, 120) := by kernel_rfl
theorem mail_Delete_walk (w : World) (b cap n k j : Nat) (hj : j = k + 1) (cur : Array Value) (hb : w.heap[b]? = some (.cells cur 78 (0, 0))) (hsz : cur.size = cap * 11) (hcap : n <= cap) (hm : cap <= maxLen) (hk : k < n) (h1c : ∀ u, u ∈ cur.toList.take (n * 11) -> u.oneCell' = true) :
  Calls Tryz.prog 113 #[.slice (some ⟨b, 0, none⟩) n cap, .int .i64 k, .int .i64 j] w fun e w' => e = .returned (.slice (some ⟨b, 0, none⟩) (n - 1) cap) /\ ∃ cur', w' = w.drew.setRow b cur' /\ cur'.size = cap * 11 /\
   cur'.toList.take ((n - 1) * 11) = cur.toList.take (k * 11) ++ (cur.toList.take (n * 11)).drop (j * 11) := by
 obtain ⟨i0, hi0, hz0, hz1, hz2⟩ := info_parts info_mail;have hm' : cap <= 9223372036854775807 := by unfold maxLen at hm; omega
 obtain ⟨news, hnews⟩ : ∃ news, news = (cur.toList.take (n * 11)).drop (j * 11) := ⟨_, rfl⟩;have hlen : news.length = (n - j) * 11 := by rw [hnews]; simp; omega
 have hget : ∀ t u, news[t]? = some u -> cur[j * 11 + t]? = some u := by
  intro t u hu;rw [hnews, List.getElem?_drop, List.getElem?_take] at hu;split at hu
  ·simpa using hu
  ·cases hu
 have hdb : w.drew.heap[b]? = some (.cells cur 78 (0, 0)) := hb
 obtain ⟨A, hA, hsrc⟩ : ∃ A : Addr, (if cap = j then some (⟨b, 0, none⟩ : Addr) else some ⟨b, j * 11, none⟩) = some A /\ Hid (∀ t u, news[t]? = some u -> w.drew.cell? (A.add t) = some u) := by
  by_cases h : cap = j
  ·refine ⟨⟨b, 0, none⟩, by simp [h], hid fun t u hu => ?_⟩;have h0 : news.length = 0 := by rw [hlen]; omega
   rw [List.length_eq_zero_iff.1 h0] at hu;simp at hu
  ·refine ⟨⟨b, j * 11, none⟩, by simp [h], hid fun t u hu => ?_⟩;rw [addr_add];simp only [World.cell?, hdb];exact hget t u hu
 have s1 : Hid (news.length = (n - j) * 11) := hid hlen;have s2 : Hid (∀ u ∈ news, u.oneCell' = true) := hid fun u hu => by rw [hnews] at hu; exact h1c u (List.mem_of_mem_drop hu)
 have s3 : Hid (∀ t, t < news.length -> (w.drew.cell? ⟨b, 0 + k * 11 + t, none⟩).isSome = true /\ w.drew.frozen? ⟨b, 0 + k * 11 + t, none⟩ = false) := hid fun t ht => by
  rw [hlen] at ht;have hlt : 0 + k * 11 + t < cur.size := by omega
  refine ⟨?_, by simp [World.frozen?, hdb]⟩;simp only [World.cell?, hdb];rw [Array.getElem?_eq_getElem hlt]; rfl
 obtain ⟨W1, hW1⟩ : ∃ W1, W1 = w.drew.setCells b (0 + k * 11) news := ⟨_, rfl⟩;have hW : Hid (W1 = w.drew.setCells b (0 + k * 11) news) := hid hW1;have hl0 : 0 + k * 11 + news.length <= cur.size := by rw [hlen]; omega
 rw [setCells_setRow hdb hl0 s2.out] at hW1;obtain ⟨cur1, hcur1⟩ : ∃ cur1, cur1 = (cur.toList.take (0 + k * 11) ++ news ++ cur.toList.drop (0 + k * 11 + news.length)).toArray := ⟨_, rfl⟩;rw [<- hcur1] at hW1;have hsz1 : cur1.size = cap * 11 := by rw [hcur1]; simp [hlen]; omega
 have hb1 : W1.heap[b]? = some (.cells cur1 78 (0, 0)) := by rw [hW1]; exact setRow_heap w.drew b cur cur1 _ _ hdb
 obtain ⟨z, hz⟩ : ∃ z, z = (Value.agg #[.bool false, .int .i64 0, .int .i64 0, .int .i64 0, .int .i64 0, .int .i64 0, .int .i64 0, .slice none 0 0, .int .i64 0, .int .i64 0, .slice none 0 0]) := ⟨_, rfl⟩;have hzl : (Builtin.zeroCells z.cells 1).toList.length = 11 := by rw [hz]; simp [zeroCells_size, Value.cells]
 have hz1c : ∀ v, v ∈ (Builtin.zeroCells z.cells 1).toList -> v.oneCell' = true := by
  rw [hz];have : ((Builtin.zeroCells (Value.cells (.agg #[.bool false, .int .i64 0, .int .i64 0, .int .i64 0, .int .i64 0, .int .i64 0, .int .i64 0, .slice none 0 0, .int .i64 0, .int .i64 0, .slice none 0 0])) 1).toList.all fun v => v.oneCell') = true := by decide +kernel
  exact List.all_eq_true.1 this
 have hcl : ∀ ty c, (Builtin.clear_ #[35] ty #[.slice (some ⟨b, (k + (n - j)) * 11, none⟩) (n - (k + (n - j))) c]).run Tryz.prog W1 = .ok (.tuple #[]) (W1.setCells b ((k + (n - j)) * 11) (Builtin.zeroCells z.cells 1).toList) := fun ty c => by
  rw [show n - (k + (n - j)) = 1 by omega]
  exact run_clear_row W1 _ _ ty z Tryz.underlying35 (fun w => by rw [hz]; simp [zeroValue, typeInfo, hi0, hz0]) b _ 1 c (by omega) hz1c
   (fun j hj => by
    rw [hzl] at hj;simp only [World.cell?, hb1]
    rw [Array.getElem?_eq_getElem (by omega)]; rfl) (fun j hj => by simp [World.frozen?, hb1])
 have hic : k <= cap := by omega
 have hjn : j <= n := by omega
 have hkj : k ≠ j := by omega
 have hkj2 : k < j := by omega
 have hkj3 : k <= j := by omega
 have hne1 : ¬ cap = k + (n - j) := by omega
 have hle1 : k + (n - j) <= n := by omega
 have hj' := hid hj;have hjc : j <= cap := by omega
 have hsz' := hid hsz;have hdb' := hid hdb;have hb' := hid hb;have hb1' := hid hb1;have hzl' := hid hzl;have hnews' := hid hnews;have hW1' := hid hW1;have hcur1' := hid hcur1;have hsz1' := hid hsz1;clear hj hsz hdb hb hb1 hW1 hcur1 hsz1 hget hnews hlen hzl hl0 h1c;go_enter Tryz.func113, Tryz.ntmps113
 go_wp2_with fail
 go_region_law (refine step_append_room rfl (.tmp 22) (.tmp 25) 35 rfl 78 i0 11 Tryz.underlying35 hi0 hz1 b 0 k cap (by simp [Act.eval, Act.put]) A (n - j) (cap - j) news (by simp [Act.eval, Act.put]) s1.out hsrc.out s2.out (by omega) s3.out ?_; rw [<- hW.out])
 go_wp2_with fail
 go_ret
 refine ⟨by rw [show n - 1 = k + (n - j) by have := hj'.out; omega]; rfl, ?_⟩;have hjo := hj'.out;have hszo := hsz'.out;have hs1o := hsz1'.out;have hno := s1.out;have hnj : n - j = n - 1 - k := by omega
 obtain ⟨zs, hzs⟩ : ∃ zs, zs = (Builtin.zeroCells #[.bool false, .int .i64 0, .int .i64 0, .int .i64 0, .int .i64 0, .int .i64 0, .int .i64 0, .slice none 0 0, .int .i64 0, .int .i64 0, .slice none 0 0] 1).toList := ⟨_, rfl⟩;have hz3 : (Builtin.zeroCells z.cells 1).toList = zs := by rw [hz, hzs]; rfl
 rw [hz3] at hzl' hz1c;rw [<- hzs];have hzlo := hzl'.out;refine ⟨(cur1.toList.take ((k + (n - j)) * 11) ++ zs ++ cur1.toList.drop ((k + (n - j)) * 11 + zs.length)).toArray, ?_, ?_, ?_⟩
 ·rw [setCells_setRow hb1'.out (by rw [hzlo]; omega) hz1c, hW1'.out, setRow_setRow]
 ·simp only [List.size_toArray, List.length_append, List.length_take, List.length_drop, Array.length_toList];omega
 ·have e1 : (n - 1) * 11 = (k + (n - j)) * 11 := by omega
  simp only;rw [e1, List.append_assoc, List.take_append_of_le_length (by simp; omega), List.take_take, Nat.min_self, hcur1'.out];simp only [Nat.zero_add];rw [List.take_append_of_le_length (by simp; omega)];rw [List.take_of_length_le (by simp; omega), hnews'.out]
theorem take_flat {rows : List (List AV)} {s : Nat} (hs : ∀ r, r ∈ rows -> r.length = s) (k : Nat) (hk : k < rows.length) : (rows.eraseIdx k).flatten = rows.flatten.take (k * s) ++ rows.flatten.drop ((k + 1) * s) := by
 rw [List.eraseIdx_eq_take_drop_succ, List.flatten_append, flatten_take hs, flatten_drop hs]
theorem mail_Delete (rows : List (List AV)) (i k n0 : Nat) (e : Int) (he : e = (k : Int) + 1) (h : Heap) (hi : h i = some ⟨78, 11, rows⟩) (hk : k < rows.length) :
  CS Tryz.prog 113 [.own i 0 rows.length, Int' k, Int' e] h n0 (fun h' n' r => h' = upd h i (some ⟨78, 11, rows.eraseIdx k⟩) /\ n' = n0 /\ r = .own i 0 (rows.length - 1)) := by
 refine ⟨fun _ _ => by kernel_rfl, fun B W0 ρ ok w vs H hv => ?_⟩
 obtain ⟨v0, v1, v2, rfl, a0, a1, a2⟩ : ∃ v0 v1 v2, vs = [v0, v1, v2] /\ V B ρ ok w (.own i 0 rows.length) v0 /\ V B ρ ok w (Int' k) v1 /\ V B ρ ok w (Int' e) v2 := by
  obtain ⟨h1, h2⟩ := hv
  match vs, h1, h2 with
  | [u, v, x], _, h2 => exact ⟨u, v, x, rfl, h2 0 _ _ rfl rfl, h2 1 _ _ rfl rfl, h2 2 _ _ rfl rfl⟩
 rcases H.row i _ hi with ⟨_, q⟩ | ⟨b, cap, cur, p1, p2, p3, p4, p5, p6, p7, p8, p9, p10⟩
 ·simp only at q; rw [q] at hk; simp at hk
 simp only at p1 p4 p5 p6 p9 p10;obtain rfl : v1 = .int .i64 k := by cases a1; rfl
 obtain rfl : v2 = .int .i64 e := by cases a2; rfl
 obtain rfl : v0 = .slice (some ⟨b, 0, none⟩) rows.length cap := by
  generalize hn : rows.length = n at *;cases a0 with
  | own0 hp => omega
  | own hp h1 h2 =>
   rw [p1] at hp;simp only [Option.some.injEq, Prod.mk.injEq] at hp;obtain ⟨rfl, rfl, rfl⟩ := hp;simp
 subst he;have hw := mail_Delete_walk w b cap rows.length k (k + 1) rfl cur p4 p5 p6 p7 hk p10.2.1;refine Calls.mono (by simpa using hw) ?_;rintro e w' ⟨rfl, cur', rfl, hs', ht⟩;have hbd : w.drew.heap[b]? = some (.cells cur 78 (0, 0)) := p4
 have Hd : HRel B W0 ρ ok h n0 w.drew := by
  refine ⟨H.below.drew, H.base, H.okb, H.fresh, fun i e he => ?_, H.inj⟩;rcases H.row i e he with h | ⟨b, cap, cur, q1, q2, q3, q4, q5, q6, q7, q8, q9, q10⟩
  ·exact Or.inl h
  ·exact Or.inr ⟨b, cap, cur, q1, q2, q3, q4, q5, q6, q7, q8, q9, q10.1, q10.2.1, fun j c u hc hu => (q10.2.2 j c u hc hu).mono (fun _ _ => rfl) (fun b hb => ⟨hb, rfl⟩)⟩
 have hcr : CR B ρ ok w.drew (rows.eraseIdx k).flatten (cur'.toList.take ((rows.eraseIdx k).length * 11)) := by
  have hc0 : CR B ρ ok w.drew rows.flatten (cur.toList.take (rows.length * 11)) := ⟨p10.1, p10.2.1, fun j c u hc hu => (p10.2.2 j c u hc hu).mono (fun _ _ => rfl) (fun b hb => ⟨hb, rfl⟩)⟩;rw [List.length_eraseIdx, if_pos hk, ht, take_flat p9 k hk];have e1 : cur.toList.take (k * 11) = (cur.toList.take (rows.length * 11)).take (k * 11) := by rw [List.take_take, Nat.min_eq_left (by omega)]
  rw [e1];exact (hc0.take _).append (hc0.drop _)
 obtain ⟨g1, g2⟩ := Hd.rewrite hi (rows := rows.eraseIdx k) (cur' := cur') p1 p2 p3 hbd hs' (by rw [List.length_eraseIdx, if_pos hk]; omega) p7 (by omega) (fun r hr => p9 r (List.mem_of_mem_eraseIdx hr)) hcr;refine ⟨_, _, n0, .own i 0 (rows.length - 1), ρ, ok, rfl, ⟨rfl, rfl, rfl⟩, Nat.le_refl _, g1, ?_, ⟨fun _ _ => rfl, fun _ _ => rfl, fun x hx => ⟨(g2.stay x hx).1, (g2.stay x hx).2⟩, g2.new, g2.size⟩⟩;have := V.own (B := B) (ρ := ρ) (ok := ok) (w := w.drew.setRow b cur') (i := i) (o := 0) (n := rows.length - 1) p1 (by omega) p7;simpa using this
set_option maxHeartbeats 2000000
theorem len8 {α : Type} {l : List α} (h : l.length = 8) : ∃ a0 a1 a2 a3 a4 a5 a6 a7, l = [a0, a1, a2, a3, a4, a5, a6, a7] := by
 match l, h with
 | [a0, a1, a2, a3, a4, a5, a6, a7], _ => exact ⟨a0, a1, a2, a3, a4, a5, a6, a7, rfl⟩
theorem equalFunc_hands {α : Type} {enc : α -> List AV} {eq : α -> α -> Bool} {f : FuncId} (he : ∀ x, (enc x).length = 8) (xs ys : List α) (hf : ∀ x y, x ∈ xs -> y ∈ ys -> C Tryz.prog f [.agg (enc x), .agg (enc y)] (Bool' (eq x y)) []) (hp : ∀ (x : α) (h : Heap), viewV h (.agg (enc x)) = some (.agg (enc x)) /\ plainV (.agg (enc x)) = true) :
  C Tryz.prog 44 [.lst false 8 (xs.map enc), .lst false 8 (ys.map enc), .fn f []] (Bool' (eqAll eq xs ys)) [] := by
 refine C_real (fun _ _ => by kernel_rfl) rfl rfl fun hr => ?_
 have hx := (hr.get (j := 0) rfl).len;rw [List.length_map] at hx;unfold maxLen at hx;refine CI Tryz.func44 ?_;refine rN ?_;refine brA_split (fun h1 => ?_) (fun h1 => ?_);rotate_left
 ·refine rN ?_;refine ends_bool (Eq.symm (Bool.eq_false_iff.2 fun h => ?_));have := eqAll_len h;simp at h1;omega
 have hl : xs.length = ys.length := by simp at h1; omega
 refine rN ?_;refine loop_count 17 xs.length (fun k _ m _ => (∃ d, m = d + 20) /\ Hid (∀ (j : Nat), j < k -> ∀ (x y : α), xs[j]? = some x -> ys[j]? = some y -> eq x y = true)) _ rfl (by rfl) ⟨⟨_, rfl⟩, by intro j hj; omega⟩ ?_ ?_
 ·rintro k t h m hk hci hs ⟨⟨d, rfl⟩, hb⟩;have hw : IntKind.i64.wrap ((k : Int) + 1) = (k : Int) + 1 := wrap_ok (by omega);obtain ⟨x, hx⟩ : ∃ x, xs[k]? = some x := ⟨xs[k], by simp⟩;obtain ⟨y, hy⟩ : ∃ y, ys[k]? = some y := ⟨ys[k]'(by omega), by simp⟩;have hk' : decide (k < xs.length) = true := by simp [hk]
  have e0 := hs 0 rfl;have e1 := hs 1 rfl;have e2 := hs 2 rfl;have e15 := hs 15 rfl;have e16 := hs 16 rfl;clear hs;simp -dsimp -implicitDefEqProofs at e0 e1 e2 e15 e16;have hex := he x;have hey := he y;replace hk := hid hk;replace hl := hid hl;have hf' := hid (hf x y (List.mem_of_getElem? hx) (List.mem_of_getElem? hy));obtain ⟨a0, a1, a2, a3, a4, a5, a6, a7, ea⟩ := len8 hex;obtain ⟨b0, b1, b2, b3, b4, b5, b6, b7, eb⟩ := len8 hey;have px := fun h => (hp x h).1
  have py := fun h => (hp y h).1
  have qx := (hp x (fun _ => none)).2;have qy := (hp y (fun _ => none)).2;rw [ea] at hf' px qx;rw [eb] at hf' py qy;replace px := hid px;replace py := hid py;clear hf hp;refine rS (aN e0 (aN e1 (aN e2 (aN e15 (aN e16 (aN hci (aN hk' (aN hx (aN hy (aN ea eb)))))))))) ?_;refine call_C hf'.out (by rw [List.mapM_cons, px.out, List.mapM_cons, py.out]; rfl) (Or.inr (by rw [List.all_cons, qx, List.all_cons, qy]; rfl)) (Nat.le_of_ble_eq_true rfl) ?_;refine rN ?_;cases hxy : eq x y
  ·refine rN ?_;refine ends_bool (Eq.symm (Bool.eq_false_iff.2 fun h => ?_));have := (eqAll_get.1 h).2 k x y hx hy;rw [hxy] at this;cases this
  ·refine rS (aN hw (aN hci (aN e0 (aN e1 (aN e2 (aN e15 e16)))))) ?_;intro j hj x' y' hx' hy';rcases Nat.lt_or_ge j k with g | g
   ·exact hb.out j g x' y' hx' hy'
   ·have : j = k := by omega
    subst this;rw [hx] at hx';rw [hy] at hy';cases hx'; cases hy'
    exact hxy
 ·rintro t h m hci hs ⟨⟨d, rfl⟩, hb⟩;have e0 := hs 0 rfl;have e1 := hs 1 rfl;have e2 := hs 2 rfl;have e15 := hs 15 rfl;have e16 := hs 16 rfl;clear hs;simp -dsimp -implicitDefEqProofs at e0 e1 e2 e15 e16;refine rS (aN e0 (aN e1 (aN e2 (aN e15 (aN e16 hci))))) ?_;exact ends_bool (Eq.symm (eqAll_get.2 ⟨hl, fun j x y hx hy => hb.out j (List.getElem?_eq_some_iff.1 hx).1 x y hx hy⟩))
theorem len11 {α : Type} {l : List α} (h : l.length = 11) : ∃ a0 a1 a2 a3 a4 a5 a6 a7 a8 a9 a10, l = [a0, a1, a2, a3, a4, a5, a6, a7, a8, a9, a10] := by
 match l, h with
 | [a0, a1, a2, a3, a4, a5, a6, a7, a8, a9, a10], _ => exact ⟨a0, a1, a2, a3, a4, a5, a6, a7, a8, a9, a10, rfl⟩
theorem equalFunc_mails {α : Type} {enc : α -> List AV} {eq : α -> α -> Bool} {f : FuncId} (he : ∀ x, (enc x).length = 11) (xs ys : List α) (hf : ∀ x y, x ∈ xs -> y ∈ ys -> C Tryz.prog f [.agg (enc x), .agg (enc y)] (Bool' (eq x y)) []) (hp : ∀ (x : α) (h : Heap), viewV h (.agg (enc x)) = some (.agg (enc x)) /\ plainV (.agg (enc x)) = true) :
  C Tryz.prog 46 [.lst false 11 (xs.map enc), .lst false 11 (ys.map enc), .fn f []] (Bool' (eqAll eq xs ys)) [] := by
 refine C_real (fun _ _ => by kernel_rfl) rfl rfl fun hr => ?_
 have hx := (hr.get (j := 0) rfl).len;rw [List.length_map] at hx;unfold maxLen at hx;refine CI Tryz.func46 ?_;refine rN ?_;refine brA_split (fun h1 => ?_) (fun h1 => ?_);rotate_left
 ·refine rN ?_;refine ends_bool (Eq.symm (Bool.eq_false_iff.2 fun h => ?_));have := eqAll_len h;simp at h1;omega
 have hl : xs.length = ys.length := by simp at h1; omega
 refine rN ?_;refine loop_count 17 xs.length (fun k _ m _ => (∃ d, m = d + 20) /\ Hid (∀ (j : Nat), j < k -> ∀ (x y : α), xs[j]? = some x -> ys[j]? = some y -> eq x y = true)) _ rfl (by rfl) ⟨⟨_, rfl⟩, by intro j hj; omega⟩ ?_ ?_
 ·rintro k t h m hk hci hs ⟨⟨d, rfl⟩, hb⟩;have hw : IntKind.i64.wrap ((k : Int) + 1) = (k : Int) + 1 := wrap_ok (by omega);obtain ⟨x, hx⟩ : ∃ x, xs[k]? = some x := ⟨xs[k], by simp⟩;obtain ⟨y, hy⟩ : ∃ y, ys[k]? = some y := ⟨ys[k]'(by omega), by simp⟩;have hk' : decide (k < xs.length) = true := by simp [hk]
  have e0 := hs 0 rfl;have e1 := hs 1 rfl;have e2 := hs 2 rfl;have e15 := hs 15 rfl;have e16 := hs 16 rfl;clear hs;simp -dsimp -implicitDefEqProofs at e0 e1 e2 e15 e16;have hex := he x;have hey := he y;replace hk := hid hk;replace hl := hid hl;have hf' := hid (hf x y (List.mem_of_getElem? hx) (List.mem_of_getElem? hy));obtain ⟨a0, a1, a2, a3, a4, a5, a6, a7, a8, a9, a10, ea⟩ := len11 hex;obtain ⟨b0, b1, b2, b3, b4, b5, b6, b7, b8, b9, b10, eb⟩ := len11 hey;have px := fun h => (hp x h).1
  have py := fun h => (hp y h).1
  have qx := (hp x (fun _ => none)).2;have qy := (hp y (fun _ => none)).2;rw [ea] at hf' px qx;rw [eb] at hf' py qy;replace px := hid px;replace py := hid py;clear hf hp;refine rS (aN e0 (aN e1 (aN e2 (aN e15 (aN e16 (aN hci (aN hk' (aN hx (aN hy (aN ea eb)))))))))) ?_;refine call_C hf'.out (by rw [List.mapM_cons, px.out, List.mapM_cons, py.out]; rfl) (Or.inr (by rw [List.all_cons, qx, List.all_cons, qy]; rfl)) (Nat.le_of_ble_eq_true rfl) ?_;refine rN ?_;cases hxy : eq x y
  ·refine rN ?_;refine ends_bool (Eq.symm (Bool.eq_false_iff.2 fun h => ?_));have := (eqAll_get.1 h).2 k x y hx hy;rw [hxy] at this;cases this
  ·refine rS (aN hw (aN hci (aN e0 (aN e1 (aN e2 (aN e15 e16)))))) ?_;intro j hj x' y' hx' hy';rcases Nat.lt_or_ge j k with g | g
   ·exact hb.out j g x' y' hx' hy'
   ·have : j = k := by omega
    subst this;rw [hx] at hx';rw [hy] at hy';cases hx'; cases hy'
    exact hxy
 ·rintro t h m hci hs ⟨⟨d, rfl⟩, hb⟩;have e0 := hs 0 rfl;have e1 := hs 1 rfl;have e2 := hs 2 rfl;have e15 := hs 15 rfl;have e16 := hs 16 rfl;clear hs;simp -dsimp -implicitDefEqProofs at e0 e1 e2 e15 e16;refine rS (aN e0 (aN e1 (aN e2 (aN e15 (aN e16 hci))))) ?_;exact ends_bool (Eq.symm (eqAll_get.2 ⟨hl, fun j x y hx hy => hb.out j (List.getElem?_eq_some_iff.1 hx).1 x y hx hy⟩))
theorem clone_hands (rows : List (List AV)) (hlen : rows.length <= 100000000) (hp : plainNews [⟨85, 8, rows⟩] = true) : C Tryz.prog 56 [.lst false 8 rows] (.own 0 0 rows.length) [⟨85, 8, rows⟩] := by
 cases rows with
 | nil =>
  have h1 : C Tryz.prog 56 [.nilv] .nl [] := by
   refine CI Tryz.func56 ?_;simp -dsimp -implicitDefEqProofs [initT];exact ⟨⟨_, rfl, Sub.refl _⟩, rfl⟩
  have h2 : C Tryz.prog 56 [.nn] (.own 0 0 0) [⟨85, 8, []⟩] := by
   refine C_inline [20] Tryz.func56 (fun _ _ => by kernel_rfl) rfl (by kernel_rfl) (by rfl) (by decide) (by rfl) (by rfl) (by first | rfl | exact plain_I _ | exact plain_map (fun _ => rfl) _) ?_;simp -dsimp -implicitDefEqProofs [initT];exact ⟨⟨_, rfl, Sub.refl _⟩, rfl⟩
  exact C_empty (C_nl_own h1) h2
 | cons x xs =>
  refine C_inline [20] Tryz.func56 (fun _ _ => by kernel_rfl) rfl (by kernel_rfl) (by rfl) (by decide) (by rfl) (by rfl) hp ?_;have hw : decide (100000000 < xs.length + 1) = false := by simp at hlen ⊢; omega
  simp -dsimp -implicitDefEqProofs [initT];simp only [hw];simp -dsimp -implicitDefEqProofs;exact ⟨⟨_, rfl, Sub.refl _⟩, rfl⟩
theorem clone_mails (rows : List (List AV)) (hlen : rows.length <= 100000000) (hp : plainNews [⟨78, 11, rows⟩] = true) : C Tryz.prog 57 [.lst false 11 rows] (.own 0 0 rows.length) [⟨78, 11, rows⟩] := by
 cases rows with
 | nil =>
  have h1 : C Tryz.prog 57 [.nilv] .nl [] := by
   refine CI Tryz.func57 ?_;simp -dsimp -implicitDefEqProofs [initT];exact ⟨⟨_, rfl, Sub.refl _⟩, rfl⟩
  have h2 : C Tryz.prog 57 [.nn] (.own 0 0 0) [⟨78, 11, []⟩] := by
   refine C_inline [20] Tryz.func57 (fun _ _ => by kernel_rfl) rfl (by kernel_rfl) (by rfl) (by decide) (by rfl) (by rfl) (by first | rfl | exact plain_I _ | exact plain_map (fun _ => rfl) _) ?_;simp -dsimp -implicitDefEqProofs [initT];exact ⟨⟨_, rfl, Sub.refl _⟩, rfl⟩
  exact C_empty (C_nl_own h1) h2
 | cons x xs =>
  refine C_inline [20] Tryz.func57 (fun _ _ => by kernel_rfl) rfl (by kernel_rfl) (by rfl) (by decide) (by rfl) (by rfl) hp ?_;have hw : decide (100000000 < xs.length + 1) = false := by simp at hlen ⊢; omega
  simp -dsimp -implicitDefEqProofs [initT];simp only [hw];simp -dsimp -implicitDefEqProofs;exact ⟨⟨_, rfl, Sub.refl _⟩, rfl⟩
theorem equal_hands (xs ys : List S.Hand) : C Tryz.prog 44 [.lst false 8 (xs.map (handC false)), .lst false 8 (ys.map (handC false)), .fn 45 []] (Bool' (decide (xs = ys))) [] := by
 rw [<- eqAll_dec];exact equalFunc_hands (fun _ => rfl) xs ys (fun x y _ _ => hand_Same x y) (fun _ _ => ⟨rfl, rfl⟩)
theorem world_Same1 (a b : S.Mail) : C Tryz.prog 47 [.agg (mailC false a), .agg (mailC false b)] (Bool' (decide (a = b))) [] := by
 refine CI Tryz.func47 ?_;refine rN ?_;refine guardC_C (cmd_Same a.c b.c) (by first | rfl | (simp -dsimp -implicitDefEqProofs; done)) (by first | exact Or.inr (by rfl) | exact Or.inl (by rfl)) ?_;refine rN ?_;refine guardC_C (desk_SameAnswer a.a b.a) (by first | rfl | (simp -dsimp -implicitDefEqProofs; done)) (by first | exact Or.inr (by rfl) | exact Or.inl (by rfl)) ?_;refine rN ?_;exact ends_eq (by cases a; cases b; simp [and_assoc])
theorem equal_mails (xs ys : List S.Mail) : C Tryz.prog 46 [.lst false 11 (xs.map (mailC false)), .lst false 11 (ys.map (mailC false)), .fn 47 []] (Bool' (decide (xs = ys))) [] := by
 rw [<- eqAll_dec];exact equalFunc_mails (fun _ => rfl) xs ys (fun x y _ _ => world_Same1 x y) (fun _ _ => ⟨rfl, rfl⟩)
theorem world_Same (a b : S.World) : C Tryz.prog 10 [.agg (worldC false a), .agg (worldC false b)] (Bool' (decide (a = b))) [] := by
 refine CI Tryz.func10 ?_;refine rN ?_;refine guardC_C (hall_Same a.h b.h) (by first | rfl | (simp -dsimp -implicitDefEqProofs; done)) (by first | exact Or.inr (by rfl) | exact Or.inl (by rfl)) ?_;refine rN ?_;refine guardC_C (disk_Same a.d b.d) (by first | rfl | (simp -dsimp -implicitDefEqProofs; done)) (by first | exact Or.inr (by rfl) | exact Or.inl (by rfl)) ?_;refine rN ?_;refine guardC_C (equal_hands a.hand b.hand) (by first | rfl | (simp -dsimp -implicitDefEqProofs; done)) (by first | exact Or.inr (by rfl) | exact Or.inl (by rfl)) ?_;refine rN ?_;refine guardC_C (equal_mails a.mail b.mail) (by first | rfl | (simp -dsimp -implicitDefEqProofs; done)) (by first | exact Or.inr (by rfl) | exact Or.inl (by rfl)) ?_;refine rN ?_;exact ends_eq (by cases a; cases b; simp [and_assoc]; exact ⟨fun ⟨a, b, c, d, e⟩ => ⟨b, c, a, d, e⟩, fun ⟨b, c, a, d, e⟩ => ⟨a, b, c, d, e⟩⟩)
theorem world_New : C Tryz.prog 12 [] (.agg (worldC true S.World.new)) [] := by
 refine CI Tryz.func12 ?_;refine rC hall_New ?_;refine rN ?_;refine ends_agg (.lst (by simp) (.lst (by simp) (.at (.at (.lst (by simp) (.nl (.nl (.at (.cons (own_outR rfl rfl (rows' := [[Int' 0, Bool' false, Int' 0, Int' 0, Int' 0, Int' 0, .nl, .nl], [Int' 0, Bool' false, Int' 0, Int' 0, Int' 0, Int' 0, .nl, .nl], [Int' 0, Bool' false, Int' 0, Int' 0, Int' 0, Int' 0, .nl, .nl]]) rfl rfl) (.lst (fun h => h) ?_) (.nl (.nil _)))))))))));have hr : SubL SubC [Int' 0, Bool' false, Int' 0, Int' 0, Int' 0, Int' 0, .nl, .nl] (handC false S.Hand.zero) := .cons (.refl _) (.cons (.refl _) (.cons (.refl _) (.cons (.refl _) (.cons (.refl _) (.cons (.refl _) (.cons .nl (.cons .nl (.nil _))))))));exact .cons hr (.cons hr (.cons hr .nil))
theorem world_mail (m : S.Mail) : C Tryz.prog 40 [.agg (mailC false m)] (Int' (S.checkMail m)) [] := by
 obtain ⟨back, who, seq, c, a⟩ := m;obtain ⟨r, hr⟩ : ∃ r, S.checkMail ⟨back, who, seq, c, a⟩ = r := ⟨_, rfl⟩;rw [hr];unfold S.checkMail at hr;simp only at hr;have cs : decide (who < 0) = true \/ (decide (who < 0) = false /\ (decide (who >= 3) = true \/ (decide (who >= 3) = false /\ (decide (seq < 1) = true \/ (decide (seq < 1) = false /\ (decide (40 < seq) = true \/ decide (40 < seq) = false)))))) := by simp; omega
 rcases cs with c1 | ⟨c1, c2 | ⟨c2, c3 | ⟨c3, c4 | c4⟩⟩⟩
 ·rw [if_pos (by simp at c1; omega)] at hr;subst hr;refine CI Tryz.func40 ?_;refine rS c1 ?_;exact ends_int rfl
 ·rw [if_pos (by simp at c1 c2; omega)] at hr;subst hr;refine CI Tryz.func40 ?_;simp at c2;refine rS (aN c1 c2) ?_;exact ends_int rfl
 ·rw [if_pos (by simp at c1 c2 c3; omega)] at hr;subst hr;refine CI Tryz.func40 ?_;simp at c2;refine rS (aN c1 (aN c2 c3)) ?_;exact ends_int rfl
 ·rw [if_pos (by simp at c1 c2 c3 c4; omega)] at hr;subst hr;refine CI Tryz.func40 ?_;simp at c2;refine rS (aN c1 (aN c2 (aN c3 c4))) ?_;exact ends_int rfl
 rw [if_neg (by simp at c1 c2 c3 c4; omega)] at hr;have c2' : decide (3 <= who) = false := by simpa using c2
 cases back with
 | true =>
  rw [if_pos rfl] at hr;by_cases h1 : c = S.Cmd.zero
  ·rw [if_neg (by simp [h1])] at hr;have h1' : decide (c = S.Cmd.zero) = true := by simp [h1]
   have k1 := hid (cmd_Same0 c);rw [h1'] at k1;replace hr := hid hr;refine CI Tryz.func40 ?_;refine rD (aN c1 (aN c2 (aN c2' (aN c3 c4)))) k1.out ?_;refine rC (desk_CheckAnswer a) ?_;refine rN ?_;exact ends_int hr.out
  ·rw [if_pos h1] at hr;have h1' : decide (c = S.Cmd.zero) = false := by simp [h1]
   have k1 := hid (cmd_Same0 c);rw [h1'] at k1;subst hr;refine CI Tryz.func40 ?_;refine rD (aN c1 (aN c2 (aN c2' (aN c3 c4)))) k1.out ?_;refine rN ?_;exact ends_int rfl
 | false =>
  rw [if_neg (by simp)] at hr;by_cases h1 : a = S.Answer.zero
  ·rw [if_neg (by simp [h1])] at hr;have h1' : decide (a = S.Answer.zero) = true := by simp [h1]
   have k1 := hid (desk_SameAnswer0 a);rw [h1'] at k1;have k2 := hid (note_Check ⟨who, seq, c⟩);rw [hr] at k2;replace hr := hid hr;refine CI Tryz.func40 ?_;refine rD (aN c1 (aN c2 (aN c2' (aN c3 c4)))) k1.out ?_;refine rC k2.out ?_;refine rN ?_;exact ends_int rfl
  ·rw [if_pos h1] at hr;have h1' : decide (a = S.Answer.zero) = false := by simp [h1]
   have k1 := hid (desk_SameAnswer0 a);rw [h1'] at k1;subst hr;refine CI Tryz.func40 ?_;refine rD (aN c1 (aN c2 (aN c2' (aN c3 c4)))) k1.out ?_;refine rN ?_;exact ends_int rfl
theorem hand_CopyS (h : S.Hand) (hs : smallHand h) : C Tryz.prog 75 [.agg (handC false h)] (.agg (handC true h)) [] :=
 C.show (hand_Copy h hs.1 hs.2.1 hs.2.2) (r1 := .agg [Int' h.seq, Bool' h.waits, Int' h.c.kind, Int' h.c.z, Int' h.c.n, Int' h.c.pos, .lst true 1 (I h.c.d), .lst true 3 (h.got.map (ansC false))])
  (by
   have := own_answers (h := heapOf [⟨76, 3, h.got.map (ansC true)⟩]) (i := 0) (n := h.got.length) (ty := 76) (xs := h.got) rfl rfl;show ((_ : List AV).mapM (outLeaf _ [])).map AV.agg = _;simp only [List.mapM_cons, List.mapM_nil, this]
   rfl) (Sub.refl _) rfl
theorem replay0_eq {w : S.Hall} {e : Int} (h : S.replay [] = (w, e)) : C Tryz.prog 41 [.nl] (.tup [.agg (hallC true w), Int' e]) [] := by
 have := hall_Replay [];rw [h] at this;exact this.args (.cons (.leaf .nl) (.nil _))
theorem replay1_eq {l : List S.Rec} {w : S.Hall} {e : Int} (h : S.replay l = (w, e)) : C Tryz.prog 41 [.lst false 7 (l.map (recC false))] (.tup [.agg (hallC true w), Int' e]) [] := by
 have := hall_Replay l;rw [h] at this;exact this
theorem hall_Same_eq {a b : S.Hall} {r : Bool} (h : decide (a = b) = r) : C Tryz.prog 42 [.agg (hallC false a), .agg (hallC false b)] (Bool' r) [] := h ▸ hall_Same a b
theorem world_Check (w : S.World) : C Tryz.prog 9 [.agg (worldC false w)] (Int' (S.checkWorld w)) [] := by
 obtain ⟨H, d, up, hand, mail⟩ := w;obtain ⟨r, hr⟩ : ∃ r, S.checkWorld ⟨H, d, up, hand, mail⟩ = r := ⟨_, rfl⟩;rw [hr];unfold S.checkWorld at hr;simp only at hr;by_cases h1 : hand.length = 3
 rotate_left
 ·rw [if_pos h1] at hr;subst hr;have h1' : decide ((hand.length : Int) = 3) = false := by simp; omega
  have h1'' : decide (hand.length = 3) = false := by simp; omega
  refine CI Tryz.func9 ?_;refine rS (aN h1' h1'') ?_;exact ends_int rfl
 rw [if_neg (by simp [h1])] at hr;have h1' : decide ((hand.length : Int) = 3) = true := by simp; omega
 have h1'' : decide (hand.length = 3) = true := by simp; omega
 by_cases h2 : 30 < mail.length
 ·rw [if_pos h2] at hr;subst hr;have h2' : decide ((30 : Int) < (mail.length : Int)) = true := by simp; omega
  have h2'' : decide (30 < mail.length) = true := by simp; omega
  refine CI Tryz.func9 ?_;refine rS (aN h1' (aN h1'' (aN h2' h2''))) ?_;exact ends_int rfl
 rw [if_neg h2] at hr;have h2' : decide ((30 : Int) < (mail.length : Int)) = false := by simp; omega
 have h2'' : decide (30 < mail.length) = false := by simp; omega
 have hrm : S.firstBad S.checkMail mail ≠ 0 -> S.firstBad S.checkMail mail = r := fun g => by rw [if_pos g] at hr; exact hr
 replace hrm := hid hrm;replace hr := hid hr;refine CI Tryz.func9 ?_;refine rS (aN h1' (aN h1'' (aN h2' h2''))) ?_;refine loop_count 24 mail.length (fun k h m _ => h 0 = some ⟨37, 10, [worldC false ⟨H, d, up, hand, mail⟩]⟩ /\ (∃ d, m = d + 56) /\ Hid (∀ (j : Nat) (x : S.Mail), j < k -> mail[j]? = some x -> S.checkMail x = 0)) _ rfl (by rfl) ⟨rfl, ⟨0, rfl⟩, by intro j x hj; omega⟩ ?_ ?_
 ·rintro k t h m hk hci hs ⟨h0, ⟨dd, rfl⟩, hb⟩;have hw : IntKind.i64.wrap ((k : Int) + 1) = (k : Int) + 1 := wrap_ok (by omega);obtain ⟨x, hx⟩ : ∃ x, mail[k]? = some x := ⟨mail[k], by simp⟩;have hk' : decide (k < mail.length) = true := by simp [hk]
  have e1 := hs 1 rfl;have e22 := hs 22 rfl;have e23 := hs 23 rfl;clear hs;simp -dsimp -implicitDefEqProofs at e1 e22 e23;replace hk := hid hk;obtain ⟨q, hq⟩ : ∃ q, S.checkMail x = q := ⟨_, rfl⟩;have hbad : q ≠ 0 -> q = r := fun g => by rw [<- hrm.out (by rw [firstBad_at hb.out hx (by rw [hq]; exact g), hq]; exact g), firstBad_at hb.out hx (by rw [hq]; exact g), hq]
  have hgood : q = 0 -> ∀ (j : Nat) (y : S.Mail), j < k + 1 -> mail[j]? = some y -> S.checkMail y = 0 := fun g => upto_succ hb.out hx (by rw [hq]; exact g)
  replace hbad := hid hbad;replace hgood := hid hgood;have cm := hid (hq ▸ world_mail x);clear hb hq;by_cases hq0 : q = 0
  ·have hg := hgood.out hq0;subst hq0;clear hbad hgood;refine rD (aN e1 (aN e22 (aN e23 (aN hci (aN hk' (aN hx h0)))))) cm.out ?_;refine rS (aN e1 (aN e22 (aN e23 (aN hci (aN hw h0))))) ?_;exact hg
  ·have := hbad.out hq0;clear hbad hgood;refine rD (aN e1 (aN e22 (aN e23 (aN hci (aN hk' (aN hx h0)))))) cm.out ?_;refine rS (aN e1 (aN e22 (aN e23 (aN hci (aN hq0 h0))))) ?_;exact ends_int this
 ·rintro t h m hci hs ⟨h0, ⟨dd, rfl⟩, hb⟩;have hfb := firstBad_none (f := S.checkMail) (xs := mail) hb.out;clear hb hrm;have hr2 := hr.out;rw [hfb, if_neg (by simp)] at hr2;clear hr hfb;have e1 := hs 1 rfl;have e22 := hs 22 rfl;have e23 := hs 23 rfl;clear hs;simp -dsimp -implicitDefEqProofs at e1 e22 e23;obtain ⟨⟨X, L, e⟩, hR⟩ : ∃ q, S.recoverDisk d = q := ⟨_, rfl⟩
  have hhr : S.heard ⟨H, d, up, hand, mail⟩ = if up = true then L else [] := by
   unfold S.heard;simp only [hR]
  rw [hhr, hR] at hr2;have cr := hid (recover_eq hR);clear hhr hR;simp only at hr2;by_cases he : e = 0
  rotate_left
  ·rw [if_pos he] at hr2;subst hr2;refine rD (aN e1 (aN e22 (aN e23 (aN hci h0)))) cr.out ?_;refine rS (aN e1 (aN e22 (aN e23 (aN he h0)))) ?_;exact ends_int rfl
  rw [if_neg (by simp [he])] at hr2;subst he;by_cases hu : up = true /\ 0 < d.wait.length
  ·rw [if_pos hu] at hr2;obtain ⟨rfl, hu2⟩ := hu;subst hr2;have g1 : decide (0 < d.wait.length) = true := by simp; omega
   refine rD (aN e1 (aN e22 (aN e23 (aN hci h0)))) cr.out ?_;refine rS (aN e1 (aN e22 (aN e23 (aN h0 g1)))) ?_;exact ends_int rfl
  rw [if_neg hu] at hr2;obtain ⟨⟨G, f⟩, hG⟩ : ∃ q, S.replay (if up = true then L else []) = q := ⟨_, rfl⟩;rw [hG] at hr2;simp only at hr2
  have hgu : up = true -> decide (0 < d.wait.length) = false := fun g => by
   simp; exact List.eq_nil_of_length_eq_zero (by
    by_cases g2 : 0 < d.wait.length
    ·exact absurd ⟨g, g2⟩ hu
    ·omega)
  replace hgu := hid hgu;clear hu;cases up with
  | true =>
   rw [if_pos rfl] at hG;have cp := hid (replay1_eq hG);have g1 := hgu.out rfl;clear hG hgu;by_cases hf : f = 0
   rotate_left
   ·rw [if_pos hf] at hr2;subst hr2;refine rD (aN e1 (aN e22 (aN e23 (aN hci h0)))) cr.out ?_;refine rD (aN e1 (aN e22 (aN e23 (aN h0 g1)))) cp.out ?_;refine rS (aN e1 (aN e22 (aN e23 (aN h0 hf)))) ?_;exact ends_int rfl
   rw [if_neg (by simp [hf])] at hr2;subst hf;by_cases hGH : G = H
   rotate_left
   ·rw [if_pos hGH] at hr2;subst hr2;have cs := hid (hall_Same_eq (a := G) (b := H) (r := false) (by simp [hGH]));refine rD (aN e1 (aN e22 (aN e23 (aN hci h0)))) cr.out ?_;refine rD (aN e1 (aN e22 (aN e23 (aN h0 g1)))) cp.out ?_;refine rD (aN e1 (aN e22 (aN e23 h0))) cs.out ?_;refine rS (aN e1 (aN e22 (aN e23 h0))) ?_;exact ends_int rfl
   rw [if_neg (by simp [hGH])] at hr2;have cs := hid (hall_Same_eq (a := G) (b := H) (r := true) (by simp [hGH]));clear hGH;replace hr2 := hid hr2;refine rD (aN e1 (aN e22 (aN e23 (aN hci h0)))) cr.out ?_;refine rD (aN e1 (aN e22 (aN e23 (aN h0 g1)))) cp.out ?_;refine rD (aN e1 (aN e22 (aN e23 h0))) cs.out ?_;refine rS (aN e1 (aN e22 (aN e23 h0))) ?_;clear cr cp cs h0 e1 e22 e23 hci;refine loop_count 72 hand.length (fun k h m _ => (∃ d, m = d + 56) /\ Hid (∀ (j : Nat) (x : S.Hand), j < k -> hand[j]? = some x -> S.checkHand x = 0)) _ rfl (by rfl) ⟨⟨_, by simp only [Nat.add_assoc, Nat.add_comm, Nat.add_left_comm]; rfl⟩, by intro j x hj; omega⟩ ?_ ?_
   ·rintro k t h m hk hci hs ⟨⟨dd, rfl⟩, hb⟩;have hw : IntKind.i64.wrap ((k : Int) + 1) = (k : Int) + 1 := wrap_ok (by omega);obtain ⟨x, hx⟩ : ∃ x, hand[k]? = some x := ⟨hand[k], by simp⟩;have hk' : decide (k < hand.length) = true := by simp [hk]
    have e70 := hs 70 rfl;have e71 := hs 71 rfl;clear hs;simp -dsimp -implicitDefEqProofs at e70 e71;replace hk := hid hk;obtain ⟨q, hq⟩ : ∃ q, S.checkHand x = q := ⟨_, rfl⟩;have hbad : q ≠ 0 -> q = r := fun g => by rw [<- hr2.out, firstBad_at hb.out hx (by rw [hq]; exact g), hq]
    have hgood : q = 0 -> ∀ (j : Nat) (y : S.Hand), j < k + 1 -> hand[j]? = some y -> S.checkHand y = 0 := fun g => upto_succ hb.out hx (by rw [hq]; exact g)
    replace hbad := hid hbad;replace hgood := hid hgood;have cm := hid (hq ▸ hand_Check x);clear hb hq;by_cases hq0 : q = 0
    ·have hg := hgood.out hq0;subst hq0;clear hbad hgood;refine rD (aN e70 (aN e71 (aN hci (aN hk' hx)))) cm.out ?_;refine rS (aN e70 (aN e71 (aN hci hw))) ?_;exact hg
    ·have := hbad.out hq0;clear hbad hgood;refine rD (aN e70 (aN e71 (aN hci (aN hk' hx)))) cm.out ?_;refine rS (aN e70 (aN e71 (aN hci hq0))) ?_;exact ends_int this
   ·rintro t h m hci hs ⟨⟨dd, rfl⟩, hb⟩;have hfb := firstBad_none (f := S.checkHand) (xs := hand) hb.out;have e70 := hs 70 rfl;have e71 := hs 71 rfl;clear hs;simp -dsimp -implicitDefEqProofs at e70 e71;refine rS (aN e70 (aN e71 hci)) ?_;exact ends_int (by rw [<- hr2.out, hfb])
  | false =>
   rw [if_neg (by simp)] at hG;have cp := hid (replay0_eq hG);clear hG hgu;by_cases hf : f = 0
   rotate_left
   ·rw [if_pos hf] at hr2;subst hr2;refine rD (aN e1 (aN e22 (aN e23 (aN hci h0)))) cr.out ?_;refine rD (aN e1 (aN e22 (aN e23 h0))) cp.out ?_;refine rS (aN e1 (aN e22 (aN e23 (aN h0 hf)))) ?_;exact ends_int rfl
   rw [if_neg (by simp [hf])] at hr2;subst hf;by_cases hGH : G = H
   rotate_left
   ·rw [if_pos hGH] at hr2;subst hr2;have cs := hid (hall_Same_eq (a := G) (b := H) (r := false) (by simp [hGH]));refine rD (aN e1 (aN e22 (aN e23 (aN hci h0)))) cr.out ?_;refine rD (aN e1 (aN e22 (aN e23 h0))) cp.out ?_;refine rD (aN e1 (aN e22 (aN e23 h0))) cs.out ?_;refine rS (aN e1 (aN e22 (aN e23 h0))) ?_;exact ends_int rfl
   rw [if_neg (by simp [hGH])] at hr2;have cs := hid (hall_Same_eq (a := G) (b := H) (r := true) (by simp [hGH]));clear hGH;replace hr2 := hid hr2;refine rD (aN e1 (aN e22 (aN e23 (aN hci h0)))) cr.out ?_;refine rD (aN e1 (aN e22 (aN e23 h0))) cp.out ?_;refine rD (aN e1 (aN e22 (aN e23 h0))) cs.out ?_;refine rS (aN e1 (aN e22 (aN e23 h0))) ?_;clear cr cp cs h0 e1 e22 e23 hci;refine loop_count 72 hand.length (fun k h m _ => (∃ d, m = d + 56) /\ Hid (∀ (j : Nat) (x : S.Hand), j < k -> hand[j]? = some x -> S.checkHand x = 0)) _ rfl (by rfl) ⟨⟨_, by simp only [Nat.add_assoc, Nat.add_comm, Nat.add_left_comm]; rfl⟩, by intro j x hj; omega⟩ ?_ ?_
   ·rintro k t h m hk hci hs ⟨⟨dd, rfl⟩, hb⟩;have hw : IntKind.i64.wrap ((k : Int) + 1) = (k : Int) + 1 := wrap_ok (by omega);obtain ⟨x, hx⟩ : ∃ x, hand[k]? = some x := ⟨hand[k], by simp⟩;have hk' : decide (k < hand.length) = true := by simp [hk]
    have e70 := hs 70 rfl;have e71 := hs 71 rfl;clear hs;simp -dsimp -implicitDefEqProofs at e70 e71;replace hk := hid hk;obtain ⟨q, hq⟩ : ∃ q, S.checkHand x = q := ⟨_, rfl⟩;have hbad : q ≠ 0 -> q = r := fun g => by rw [<- hr2.out, firstBad_at hb.out hx (by rw [hq]; exact g), hq]
    have hgood : q = 0 -> ∀ (j : Nat) (y : S.Hand), j < k + 1 -> hand[j]? = some y -> S.checkHand y = 0 := fun g => upto_succ hb.out hx (by rw [hq]; exact g)
    replace hbad := hid hbad;replace hgood := hid hgood;have cm := hid (hq ▸ hand_Check x);clear hb hq;by_cases hq0 : q = 0
    ·have hg := hgood.out hq0;subst hq0;clear hbad hgood;refine rD (aN e70 (aN e71 (aN hci (aN hk' hx)))) cm.out ?_;refine rS (aN e70 (aN e71 (aN hci hw))) ?_;exact hg
    ·have := hbad.out hq0;clear hbad hgood;refine rD (aN e70 (aN e71 (aN hci (aN hk' hx)))) cm.out ?_;refine rS (aN e70 (aN e71 (aN hci hq0))) ?_;exact ends_int this
   ·rintro t h m hci hs ⟨⟨dd, rfl⟩, hb⟩;have hfb := firstBad_none (f := S.checkHand) (xs := hand) hb.out;have e70 := hs 70 rfl;have e71 := hs 71 rfl;clear hs;simp -dsimp -implicitDefEqProofs at e70 e71;refine rS (aN e70 (aN e71 hci)) ?_;exact ends_int (by rw [<- hr2.out, hfb])
structure SmallW (w : S.World) : Prop where
 desk : Small w.h.d
 last : w.h.last.length <= 100000
 lasts : ∀ x, x ∈ w.h.last -> x.a.d.length <= 100000
 safe : w.d.safe.length <= 100000
 wait : w.d.wait.length <= 100000
 hand : w.hand.length <= 100000
 hands : ∀ x, x ∈ w.hand -> smallHand x
 mail : w.mail.length <= 100000
 mails : ∀ m, m ∈ w.mail -> m.c.d.length <= 100000 /\ m.a.d.length <= 100000
abbrev ownW (fr : Bool) (w : S.World) (a b : Nat) : List AV := [.lst fr 2 (w.h.d.zs.map (zoneC false)), .lst fr 1 (I w.h.d.b.k), .at (.int .i64 w.h.d.b.h), .at (.int .i64 w.h.d.b.t), .lst fr 4 (w.h.last.map (lastC false)), .lst fr 1 (B8 w.d.safe), .lst fr 1 (B8 w.d.wait), .at (.bool w.up), .own a 0 w.hand.length, .own b 0 w.mail.length]
theorem own_outK {h : Heap} {keep : List Nat} {i n : Nat} {ty : TypeId} {s : Nat} {rows rows' : List (List AV)} (hi : h i = some ⟨ty, s, rows⟩) (hk : keep.idxOf? i = none) (hc : keep.contains i = false) (hn : n = rows.length) (hm : rows.mapM (fun (r : List AV) => r.mapM (leafP h keep 2)) = some rows') (hf : (rows.all fun r => r.all freshCell) = true) : outLeaf h keep (.own i 0 n) = some (.lst true s rows') := by
 subst hn
 have e : leafP h keep 3 (.own i 0 rows.length) = some (.lst false s rows') := by
  show (if keep.contains i then none else match h i with | some e => if 0 + rows.length <= e.rows.length then (((e.rows.drop 0).take rows.length).mapM fun (r : List AV) => r.mapM (leafP h keep 2)).map (AV.lst false e.s ·) else none | none => none) = _;rw [hc, hi];simp only [List.drop_zero];rw [if_neg (by simp), if_pos (by simp), List.take_of_length_le (by simp), hm];rfl
 show (match keep.idxOf? i with | some j => some (AV.own j 0 rows.length) | none => match h i, leafP h keep 3 (.own i 0 rows.length) with | some e, some (.lst _ s rows) => some (AV.lst (e.rows.all fun r => r.all freshCell) s rows) | _, _ => none) = _;rw [hk, e, hi];simp only [hf]
theorem clone_bytesS (xs : List UInt8) (hlen : xs.length <= 100000000) : C Tryz.prog 66 [.lst false 1 (B8 xs)] (.lst true 1 (B8 xs)) [] := by
 refine C.show (clone_bytes xs hlen) (r1 := .lst true 1 (B8 xs)) ?_ (Sub.refl _) rfl;have := own_outR (h := heapOf [⟨5, 1, B8 xs⟩]) (i := 0) (n := xs.length) (ty := 5) (s := 1) (rows := B8 xs) (rows' := B8 xs) rfl (by simp) (mapM_map (f := fun b : UInt8 => [AV.at (.int .u8 b.toNat)]) (g := fun (r : List AV) => r.mapM (leafP _ [] 2)) (e := fun b : UInt8 => [AV.at (.int .u8 b.toNat)]) (fun _ => rfl) xs) (by simp [B8, freshCell]);exact this
theorem world_Copy (w : S.World) (hs : SmallW w) : C Tryz.prog 31 [.agg (worldC false w)] (.agg (ownW true w 0 1)) [⟨85, 8, w.hand.map (handC true)⟩, ⟨78, 11, w.mail.map (mailC true)⟩] := by
 obtain ⟨H, d, up, hand, mail⟩ := w;obtain ⟨s1, s2, s3, s4, s5, s6, s7, s8, s9⟩ := hs;simp only at s1 s2 s3 s4 s5 s6 s7 s8 s9;have c1 := hid (hall_Copy H.d H.last s1 s2 s3);have c2 := clone_hands (hand.map (handC false)) (by simp; omega) (plain_map (fun _ => rfl) _);have c3 := clone_mails (mail.map (mailC false)) (by simp; omega) (plain_map (fun _ => rfl) _);simp only [List.length_map] at c2 c3;have c4 := hid (clone_bytesS d.safe (by omega));have c5 := hid (clone_bytesS d.wait (by omega));replace c2 := hid c2;replace c3 := hid c3;replace s6 := hid s6;replace s7 := hid s7;replace s8 := hid s8;replace s9 := hid s9;clear s1 s2 s3 s4 s5
 refine C_inlineG [(11, [55065])] [28, 40] Tryz.func31 (fun _ _ => by kernel_rfl) rfl (by kernel_rfl) (by rfl) (by decide) (by rfl) (by rfl) (by
  simp only [plainNews, List.all_cons, List.all_nil, Bool.and_true, List.all_map, Bool.and_eq_true]
  exact ⟨List.all_eq_true.2 fun x _ => rfl, List.all_eq_true.2 fun x _ => rfl⟩) ?_
 refine rC c1.out ?_;refine rC c2.out ?_;refine rC c3.out ?_;refine rC c4.out ?_;refine rC c5.out ?_;refine rN ?_;refine loop_count 32 hand.length (fun k h m _ => h 0 = some ⟨37, 10, [[.lst true 2 (H.d.zs.map (zoneC false)), .lst true 1 (I H.d.b.k), Int' H.d.b.h, Int' H.d.b.t, .own 16 0 H.last.length, .lst true 1 (B8 d.safe), .lst true 1 (B8 d.wait), Bool' up, .own 28 0 hand.length, .own 40 0 mail.length]]⟩ /\ h 16 = some ⟨111, 4, H.last.map (lastC true)⟩ /\ h 28 = some ⟨85, 8, mix (handC true) (handC false) hand k⟩ /\ h 40 = some ⟨78, 11, mail.map (mailC false)⟩ /\ h 4 = some ⟨37, 10, [[.nl, .nl, Int' 0, Int' 0, .nl, .nl, .nl, Bool' false, .nl, .nl]]⟩ /\ ∃ d, m = d + 128) _ rfl (by rfl) ?_ ?_ ?_
 ·simp -dsimp -implicitDefEqProofs
 ·rintro k t h m hk hci hs ⟨h0, h16, h28, h40, h4, dd, rfl⟩;have hw : IntKind.i64.wrap ((k : Int) + 1) = (k : Int) + 1 := wrap_ok (by have := s6.out; omega);obtain ⟨x, hx⟩ : ∃ x, hand[k]? = some x := ⟨hand[k], by simp⟩;have hk' : decide (k < hand.length) = true := by simp [hk]
  have hm := mix_get (f := handC true) (g := handC false) hx;have e1 := hs 1 rfl;have e2 := hs 2 rfl;have e30 := hs 30 rfl;have e31 := hs 31 rfl;clear hs;simp -dsimp -implicitDefEqProofs at e1 e2 e30 e31;have cp := hid (hand_CopyS x (s7.out x (List.mem_of_getElem? hx)));have hms := mix_set (f := handC true) (g := handC false) hx;refine rD (aN e1 (aN e2 (aN e30 (aN e31 (aN hci (aN hk' (aN hm (aN h0 (aN h16 (aN h28 (aN h40 (aN h4 hk)))))))))))) cp.out ?_;exact rW (aN e1 (aN e2 (aN e30 (aN e31 (aN hci (aN hw (aN hm (aN hms (aN h0 (aN h16 (aN h28 (aN h40 (aN h4 hk)))))))))))))
 ·rintro t h m hci hs ⟨h0, h16, h28, h40, h4, dd, rfl⟩;have e1 := hs 1 rfl;have e2 := hs 2 rfl;have e30 := hs 30 rfl;have e31 := hs 31 rfl;clear hs;simp -dsimp -implicitDefEqProofs at e1 e2 e30 e31;refine rS (aN e1 (aN e2 (aN e30 (aN e31 (aN hci (aN h0 (aN h16 (aN h28 (aN h40 h4))))))))) ?_;refine loop_count 47 mail.length (fun k h m _ => h 0 = some ⟨37, 10, [[.lst true 2 (H.d.zs.map (zoneC false)), .lst true 1 (I H.d.b.k), Int' H.d.b.h, Int' H.d.b.t, .own 16 0 H.last.length, .lst true 1 (B8 d.safe), .lst true 1 (B8 d.wait), Bool' up, .own 28 0 hand.length, .own 40 0 mail.length]]⟩ /\ h 16 = some ⟨111, 4, H.last.map (lastC true)⟩ /\ h 28 = some ⟨85, 8, hand.map (handC true)⟩ /\ h 40 = some ⟨78, 11, mix (mailC true) (mailC false) mail k⟩ /\ h 4 = some ⟨37, 10, [[.nl, .nl, Int' 0, Int' 0, .nl, .nl, .nl, Bool' false, .nl, .nl]]⟩ /\ ∃ d, m = d + 128) _ rfl (by rfl) ?_ ?_ ?_
  ·simp -dsimp -implicitDefEqProofs [h0, h16, h28, h40, h4]
  ·have f1 := e1;have f2 := e2;clear h0 h16 h28 h40 h4 hci e1 e2 e30 e31;rintro k t h m hk hci hs ⟨h0, h16, h28, h40, h4, dd, rfl⟩;have hw : IntKind.i64.wrap ((k : Int) + 1) = (k : Int) + 1 := wrap_ok (by have := s8.out; omega);obtain ⟨x, hx⟩ : ∃ x, mail[k]? = some x := ⟨mail[k], by simp⟩;have hk' : decide (k < mail.length) = true := by simp [hk]
   have hm := mix_get (f := mailC true) (g := mailC false) hx;have e1 := hs 1 rfl;have e2 := hs 2 rfl;have e45 := hs 45 rfl;have e46 := hs 46 rfl;clear hs;simp -dsimp -implicitDefEqProofs at e1 e2 e45 e46;have hx9 := s9.out x (List.mem_of_getElem? hx);have cp := hid (cmd_Copy x.c (by omega));have ca := hid (desk_CopyAnswer x.a (by omega));have hms := mix_set (f := mailC true) (g := mailC false) hx;clear hx9;refine rD (aN e1 (aN e2 (aN e45 (aN e46 (aN f1 (aN f2 (aN hci (aN hk' (aN hm (aN h0 (aN h16 (aN h28 (aN h40 (aN h4 hk)))))))))))))) cp.out ?_;refine rD (aN e1 (aN e2 (aN e45 (aN e46 (aN f1 (aN f2 (aN hci (aN hw (aN hm (aN hms (aN h0 (aN h16 (aN h28 (aN h40 (aN h4 hk))))))))))))))) ca.out ?_;exact rW (aN e1 (aN e2 (aN e45 (aN e46 (aN f1 (aN f2 (aN hci (aN hw (aN hm (aN hms (aN h0 (aN h16 (aN h28 (aN h40 (aN h4 hk)))))))))))))))
  ·have f1 := e1;have f2 := e2;clear h0 h16 h28 h40 h4 hci e1 e2 e30 e31;rintro t h m hci hs ⟨h0, h16, h28, h40, h4, dd, rfl⟩;have e1 := hs 1 rfl;have e2 := hs 2 rfl;have e45 := hs 45 rfl;have e46 := hs 46 rfl;clear hs;simp -dsimp -implicitDefEqProofs at e1 e2 e45 e46;refine rS (aN e1 (aN e2 (aN e45 (aN e46 (aN f1 (aN f2 (aN hci (aN h0 (aN h16 (aN h28 (aN h40 h4))))))))))) ?_;refine ⟨⟨_, ?_, Sub.refl _⟩, ?_⟩
   ·have ho := own_outK (h := upd h 4 (some ⟨37, 10, [[.lst true 2 (H.d.zs.map (zoneC false)), .lst true 1 (I H.d.b.k), Int' H.d.b.h, Int' H.d.b.t, .own 16 0 H.last.length, .lst true 1 (B8 d.safe), .lst true 1 (B8 d.wait), Bool' up, .own 28 0 hand.length, .own 40 0 mail.length]]⟩)) (keep := [28, 40]) (i := 16) (n := H.last.length) (ty := 111) (s := 4) (rows := H.last.map (lastC true)) (rows' := H.last.map (lastC false)) (by rw [upd_ne _ _ (by decide)]; exact h16) rfl rfl (by simp) (mapM_map (f := lastC true) (g := fun (r : List AV) => r.mapM (leafP _ [28, 40] 2)) (e := lastC false) (fun _ => rfl) _) (by simp [freshCell]);show ((_ : List AV).mapM (outLeaf _ [28, 40])).map AV.agg = _;simp only [List.mapM_cons, List.mapM_nil, ho];rfl
   ·simp [upd, h28, h40]
end Go.Proofs.YtadmfokicjjglaaGreatDoor.E
