
/- Xg: law.DiskKeeps. -/
import Derived.Test.YtallmebpmoaopaaDoorXf
import Derived.Test.YtallmebpmoaopaaDoorSpecKeeps
namespace Go.Proofs.YtallmebpmoaopaaDoor.E
open Go.RowKit Go.Proofs
set_option linter.unusedVariables false
set_option linter.unusedSimpArgs false
set_option maxRecDepth 100000
set_option maxHeartbeats 2000000

theorem ap18 {i s : Nat} (h : i < s) : ∀ a1 a2 a3 a4 a5 a6 a7 a8 a9 a10 a11 a12 a13 a14 a15 a16 a17 a18, ¬ i = s + a1 + a2 + a3 + a4 + a5 + a6 + a7 + a8 + a9 + a10 + a11 + a12 + a13 + a14 + a15 + a16 + a17 + a18 := by omega
theorem ap19 {i s : Nat} (h : i < s) : ∀ a1 a2 a3 a4 a5 a6 a7 a8 a9 a10 a11 a12 a13 a14 a15 a16 a17 a18 a19, ¬ i = s + a1 + a2 + a3 + a4 + a5 + a6 + a7 + a8 + a9 + a10 + a11 + a12 + a13 + a14 + a15 + a16 + a17 + a18 + a19 := by omega
theorem ap20 {i s : Nat} (h : i < s) : ∀ a1 a2 a3 a4 a5 a6 a7 a8 a9 a10 a11 a12 a13 a14 a15 a16 a17 a18 a19 a20, ¬ i = s + a1 + a2 + a3 + a4 + a5 + a6 + a7 + a8 + a9 + a10 + a11 + a12 + a13 + a14 + a15 + a16 + a17 + a18 + a19 + a20 := by omega
theorem ap21 {i s : Nat} (h : i < s) : ∀ a1 a2 a3 a4 a5 a6 a7 a8 a9 a10 a11 a12 a13 a14 a15 a16 a17 a18 a19 a20 a21, ¬ i = s + a1 + a2 + a3 + a4 + a5 + a6 + a7 + a8 + a9 + a10 + a11 + a12 + a13 + a14 + a15 + a16 + a17 + a18 + a19 + a20 + a21 := by omega
theorem ap22 {i s : Nat} (h : i < s) : ∀ a1 a2 a3 a4 a5 a6 a7 a8 a9 a10 a11 a12 a13 a14 a15 a16 a17 a18 a19 a20 a21 a22, ¬ i = s + a1 + a2 + a3 + a4 + a5 + a6 + a7 + a8 + a9 + a10 + a11 + a12 + a13 + a14 + a15 + a16 + a17 + a18 + a19 + a20 + a21 + a22 := by omega
theorem ap23 {i s : Nat} (h : i < s) : ∀ a1 a2 a3 a4 a5 a6 a7 a8 a9 a10 a11 a12 a13 a14 a15 a16 a17 a18 a19 a20 a21 a22 a23, ¬ i = s + a1 + a2 + a3 + a4 + a5 + a6 + a7 + a8 + a9 + a10 + a11 + a12 + a13 + a14 + a15 + a16 + a17 + a18 + a19 + a20 + a21 + a22 + a23 := by omega
theorem ap24 {i s : Nat} (h : i < s) : ∀ a1 a2 a3 a4 a5 a6 a7 a8 a9 a10 a11 a12 a13 a14 a15 a16 a17 a18 a19 a20 a21 a22 a23 a24, ¬ i = s + a1 + a2 + a3 + a4 + a5 + a6 + a7 + a8 + a9 + a10 + a11 + a12 + a13 + a14 + a15 + a16 + a17 + a18 + a19 + a20 + a21 + a22 + a23 + a24 := by omega
theorem ap25 {i s : Nat} (h : i < s) : ∀ a1 a2 a3 a4 a5 a6 a7 a8 a9 a10 a11 a12 a13 a14 a15 a16 a17 a18 a19 a20 a21 a22 a23 a24 a25, ¬ i = s + a1 + a2 + a3 + a4 + a5 + a6 + a7 + a8 + a9 + a10 + a11 + a12 + a13 + a14 + a15 + a16 + a17 + a18 + a19 + a20 + a21 + a22 + a23 + a24 + a25 := by omega
theorem ap26 {i s : Nat} (h : i < s) : ∀ a1 a2 a3 a4 a5 a6 a7 a8 a9 a10 a11 a12 a13 a14 a15 a16 a17 a18 a19 a20 a21 a22 a23 a24 a25 a26, ¬ i = s + a1 + a2 + a3 + a4 + a5 + a6 + a7 + a8 + a9 + a10 + a11 + a12 + a13 + a14 + a15 + a16 + a17 + a18 + a19 + a20 + a21 + a22 + a23 + a24 + a25 + a26 := by omega
theorem ap27 {i s : Nat} (h : i < s) : ∀ a1 a2 a3 a4 a5 a6 a7 a8 a9 a10 a11 a12 a13 a14 a15 a16 a17 a18 a19 a20 a21 a22 a23 a24 a25 a26 a27, ¬ i = s + a1 + a2 + a3 + a4 + a5 + a6 + a7 + a8 + a9 + a10 + a11 + a12 + a13 + a14 + a15 + a16 + a17 + a18 + a19 + a20 + a21 + a22 + a23 + a24 + a25 + a26 + a27 := by omega
theorem ap28 {i s : Nat} (h : i < s) : ∀ a1 a2 a3 a4 a5 a6 a7 a8 a9 a10 a11 a12 a13 a14 a15 a16 a17 a18 a19 a20 a21 a22 a23 a24 a25 a26 a27 a28, ¬ i = s + a1 + a2 + a3 + a4 + a5 + a6 + a7 + a8 + a9 + a10 + a11 + a12 + a13 + a14 + a15 + a16 + a17 + a18 + a19 + a20 + a21 + a22 + a23 + a24 + a25 + a26 + a27 + a28 := by omega
theorem ap29 {i s : Nat} (h : i < s) : ∀ a1 a2 a3 a4 a5 a6 a7 a8 a9 a10 a11 a12 a13 a14 a15 a16 a17 a18 a19 a20 a21 a22 a23 a24 a25 a26 a27 a28 a29, ¬ i = s + a1 + a2 + a3 + a4 + a5 + a6 + a7 + a8 + a9 + a10 + a11 + a12 + a13 + a14 + a15 + a16 + a17 + a18 + a19 + a20 + a21 + a22 + a23 + a24 + a25 + a26 + a27 + a28 + a29 := by omega
theorem ap30 {i s : Nat} (h : i < s) : ∀ a1 a2 a3 a4 a5 a6 a7 a8 a9 a10 a11 a12 a13 a14 a15 a16 a17 a18 a19 a20 a21 a22 a23 a24 a25 a26 a27 a28 a29 a30, ¬ i = s + a1 + a2 + a3 + a4 + a5 + a6 + a7 + a8 + a9 + a10 + a11 + a12 + a13 + a14 + a15 + a16 + a17 + a18 + a19 + a20 + a21 + a22 + a23 + a24 + a25 + a26 + a27 + a28 + a29 + a30 := by omega
theorem ap31 {i s : Nat} (h : i < s) : ∀ a1 a2 a3 a4 a5 a6 a7 a8 a9 a10 a11 a12 a13 a14 a15 a16 a17 a18 a19 a20 a21 a22 a23 a24 a25 a26 a27 a28 a29 a30 a31, ¬ i = s + a1 + a2 + a3 + a4 + a5 + a6 + a7 + a8 + a9 + a10 + a11 + a12 + a13 + a14 + a15 + a16 + a17 + a18 + a19 + a20 + a21 + a22 + a23 + a24 + a25 + a26 + a27 + a28 + a29 + a30 + a31 := by omega
theorem ap32 {i s : Nat} (h : i < s) : ∀ a1 a2 a3 a4 a5 a6 a7 a8 a9 a10 a11 a12 a13 a14 a15 a16 a17 a18 a19 a20 a21 a22 a23 a24 a25 a26 a27 a28 a29 a30 a31 a32, ¬ i = s + a1 + a2 + a3 + a4 + a5 + a6 + a7 + a8 + a9 + a10 + a11 + a12 + a13 + a14 + a15 + a16 + a17 + a18 + a19 + a20 + a21 + a22 + a23 + a24 + a25 + a26 + a27 + a28 + a29 + a30 + a31 + a32 := by omega
theorem ap33 {i s : Nat} (h : i < s) : ∀ a1 a2 a3 a4 a5 a6 a7 a8 a9 a10 a11 a12 a13 a14 a15 a16 a17 a18 a19 a20 a21 a22 a23 a24 a25 a26 a27 a28 a29 a30 a31 a32 a33, ¬ i = s + a1 + a2 + a3 + a4 + a5 + a6 + a7 + a8 + a9 + a10 + a11 + a12 + a13 + a14 + a15 + a16 + a17 + a18 + a19 + a20 + a21 + a22 + a23 + a24 + a25 + a26 + a27 + a28 + a29 + a30 + a31 + a32 + a33 := by omega
theorem ap34 {i s : Nat} (h : i < s) : ∀ a1 a2 a3 a4 a5 a6 a7 a8 a9 a10 a11 a12 a13 a14 a15 a16 a17 a18 a19 a20 a21 a22 a23 a24 a25 a26 a27 a28 a29 a30 a31 a32 a33 a34, ¬ i = s + a1 + a2 + a3 + a4 + a5 + a6 + a7 + a8 + a9 + a10 + a11 + a12 + a13 + a14 + a15 + a16 + a17 + a18 + a19 + a20 + a21 + a22 + a23 + a24 + a25 + a26 + a27 + a28 + a29 + a30 + a31 + a32 + a33 + a34 := by omega
theorem ap35 {i s : Nat} (h : i < s) : ∀ a1 a2 a3 a4 a5 a6 a7 a8 a9 a10 a11 a12 a13 a14 a15 a16 a17 a18 a19 a20 a21 a22 a23 a24 a25 a26 a27 a28 a29 a30 a31 a32 a33 a34 a35, ¬ i = s + a1 + a2 + a3 + a4 + a5 + a6 + a7 + a8 + a9 + a10 + a11 + a12 + a13 + a14 + a15 + a16 + a17 + a18 + a19 + a20 + a21 + a22 + a23 + a24 + a25 + a26 + a27 + a28 + a29 + a30 + a31 + a32 + a33 + a34 + a35 := by omega
theorem ap36 {i s : Nat} (h : i < s) : ∀ a1 a2 a3 a4 a5 a6 a7 a8 a9 a10 a11 a12 a13 a14 a15 a16 a17 a18 a19 a20 a21 a22 a23 a24 a25 a26 a27 a28 a29 a30 a31 a32 a33 a34 a35 a36, ¬ i = s + a1 + a2 + a3 + a4 + a5 + a6 + a7 + a8 + a9 + a10 + a11 + a12 + a13 + a14 + a15 + a16 + a17 + a18 + a19 + a20 + a21 + a22 + a23 + a24 + a25 + a26 + a27 + a28 + a29 + a30 + a31 + a32 + a33 + a34 + a35 + a36 := by omega
theorem ap37 {i s : Nat} (h : i < s) : ∀ a1 a2 a3 a4 a5 a6 a7 a8 a9 a10 a11 a12 a13 a14 a15 a16 a17 a18 a19 a20 a21 a22 a23 a24 a25 a26 a27 a28 a29 a30 a31 a32 a33 a34 a35 a36 a37, ¬ i = s + a1 + a2 + a3 + a4 + a5 + a6 + a7 + a8 + a9 + a10 + a11 + a12 + a13 + a14 + a15 + a16 + a17 + a18 + a19 + a20 + a21 + a22 + a23 + a24 + a25 + a26 + a27 + a28 + a29 + a30 + a31 + a32 + a33 + a34 + a35 + a36 + a37 := by omega
theorem ap38 {i s : Nat} (h : i < s) : ∀ a1 a2 a3 a4 a5 a6 a7 a8 a9 a10 a11 a12 a13 a14 a15 a16 a17 a18 a19 a20 a21 a22 a23 a24 a25 a26 a27 a28 a29 a30 a31 a32 a33 a34 a35 a36 a37 a38, ¬ i = s + a1 + a2 + a3 + a4 + a5 + a6 + a7 + a8 + a9 + a10 + a11 + a12 + a13 + a14 + a15 + a16 + a17 + a18 + a19 + a20 + a21 + a22 + a23 + a24 + a25 + a26 + a27 + a28 + a29 + a30 + a31 + a32 + a33 + a34 + a35 + a36 + a37 + a38 := by omega
theorem ap39 {i s : Nat} (h : i < s) : ∀ a1 a2 a3 a4 a5 a6 a7 a8 a9 a10 a11 a12 a13 a14 a15 a16 a17 a18 a19 a20 a21 a22 a23 a24 a25 a26 a27 a28 a29 a30 a31 a32 a33 a34 a35 a36 a37 a38 a39, ¬ i = s + a1 + a2 + a3 + a4 + a5 + a6 + a7 + a8 + a9 + a10 + a11 + a12 + a13 + a14 + a15 + a16 + a17 + a18 + a19 + a20 + a21 + a22 + a23 + a24 + a25 + a26 + a27 + a28 + a29 + a30 + a31 + a32 + a33 + a34 + a35 + a36 + a37 + a38 + a39 := by omega
theorem ap40 {i s : Nat} (h : i < s) : ∀ a1 a2 a3 a4 a5 a6 a7 a8 a9 a10 a11 a12 a13 a14 a15 a16 a17 a18 a19 a20 a21 a22 a23 a24 a25 a26 a27 a28 a29 a30 a31 a32 a33 a34 a35 a36 a37 a38 a39 a40, ¬ i = s + a1 + a2 + a3 + a4 + a5 + a6 + a7 + a8 + a9 + a10 + a11 + a12 + a13 + a14 + a15 + a16 + a17 + a18 + a19 + a20 + a21 + a22 + a23 + a24 + a25 + a26 + a27 + a28 + a29 + a30 + a31 + a32 + a33 + a34 + a35 + a36 + a37 + a38 + a39 + a40 := by omega
theorem ap41 {i s : Nat} (h : i < s) : ∀ a1 a2 a3 a4 a5 a6 a7 a8 a9 a10 a11 a12 a13 a14 a15 a16 a17 a18 a19 a20 a21 a22 a23 a24 a25 a26 a27 a28 a29 a30 a31 a32 a33 a34 a35 a36 a37 a38 a39 a40 a41, ¬ i = s + a1 + a2 + a3 + a4 + a5 + a6 + a7 + a8 + a9 + a10 + a11 + a12 + a13 + a14 + a15 + a16 + a17 + a18 + a19 + a20 + a21 + a22 + a23 + a24 + a25 + a26 + a27 + a28 + a29 + a30 + a31 + a32 + a33 + a34 + a35 + a36 + a37 + a38 + a39 + a40 + a41 := by omega
theorem ap42 {i s : Nat} (h : i < s) : ∀ a1 a2 a3 a4 a5 a6 a7 a8 a9 a10 a11 a12 a13 a14 a15 a16 a17 a18 a19 a20 a21 a22 a23 a24 a25 a26 a27 a28 a29 a30 a31 a32 a33 a34 a35 a36 a37 a38 a39 a40 a41 a42, ¬ i = s + a1 + a2 + a3 + a4 + a5 + a6 + a7 + a8 + a9 + a10 + a11 + a12 + a13 + a14 + a15 + a16 + a17 + a18 + a19 + a20 + a21 + a22 + a23 + a24 + a25 + a26 + a27 + a28 + a29 + a30 + a31 + a32 + a33 + a34 + a35 + a36 + a37 + a38 + a39 + a40 + a41 + a42 := by omega
theorem ap43 {i s : Nat} (h : i < s) : ∀ a1 a2 a3 a4 a5 a6 a7 a8 a9 a10 a11 a12 a13 a14 a15 a16 a17 a18 a19 a20 a21 a22 a23 a24 a25 a26 a27 a28 a29 a30 a31 a32 a33 a34 a35 a36 a37 a38 a39 a40 a41 a42 a43, ¬ i = s + a1 + a2 + a3 + a4 + a5 + a6 + a7 + a8 + a9 + a10 + a11 + a12 + a13 + a14 + a15 + a16 + a17 + a18 + a19 + a20 + a21 + a22 + a23 + a24 + a25 + a26 + a27 + a28 + a29 + a30 + a31 + a32 + a33 + a34 + a35 + a36 + a37 + a38 + a39 + a40 + a41 + a42 + a43 := by omega
def DiskIs (cells : List AV) (d : S.Disk) : Prop := (cells = [.nl, .nl] ∧ d = S.Disk.zero) ∨ cells = diskC true d
def KeepsOut (i : Nat) (h0 : Heap) (n0 : Nat) (d : S.Disk) (q : S.Disk × List S.Rec) (h : Heap) (n : Nat) (r : AV) : Prop :=
  n0 ≤ n ∧ (∀ x, x < n0 → x ≠ i → h x = h0 x) ∧ ((q.2 = [] ∧ q.1 = d ∧ r = .nl ∧ h i = h0 i) ∨
    (h i = some ⟨46, 2, [diskC true q.1]⟩ ∧ ∃ y, r = .own y 0 q.2.length ∧ n0 ≤ y ∧ y < n ∧ h y = some ⟨36, 7, q.2.map (recC false)⟩))
/-- so far -/
def KeepsAt (i : Nat) (h0 : Heap) (n0 : Nat) (d : S.Disk) (l : List S.Rec) (q : S.Disk × List S.Rec) (h : Heap) (n : Nat) (v : AV) : Prop :=
  (∀ x, x < n0 → x ≠ i → h x = h0 x) ∧ ∃ (D : S.Disk) (out : List S.Rec), S.putAll l D out = q ∧ out.length + l.length ≤ 20 ∧ ((out = [] ∧ D = d ∧ v = .nl ∧ h i = h0 i) ∨
    (h i = some ⟨46, 2, [diskC true D]⟩ ∧ ∃ y, v = .own y 0 out.length ∧ n0 ≤ y ∧ y < n ∧ h y = some ⟨36, 7, out.map (recC false)⟩))

theorem putD_eq {cells : List AV} {d x : S.Disk} {r : S.Rec} {e : Int} (h0 : DiskIs cells d) (h : S.putDisk d r = (x, e)) : C Tryd.prog 27 [.agg (cells.map unfr), .agg (recC false r)] (.tup [.agg (diskC true x), Int' e]) [] := by
  rcases h0 with ⟨rfl, rfl⟩ | rfl
  · exact (put_eq h).args (.cons (.agg (.cons .nl (.cons .nl (.nil _)))) (.cons (.refl _) (.nil _)))
  · exact put_eq h

theorem keeps_put (l : List S.Rec) (i n0 : Nat) (h0 : Heap) (cells : List AV) (d : S.Disk) (hc : DiskIs cells d) (hi : h0 i = some ⟨46, 2, [cells]⟩) (hin : i < n0) :
    CS Tryd.prog 26 [.lst false 7 (l.map (recC false)), .ptr i 2 0 0] h0 n0 (KeepsOut i h0 n0 d (S.putAll (l.take 20) d [])) := by
  obtain ⟨q, hq⟩ : ∃ q, S.putAll (l.take 20) d [] = q := ⟨_, rfl⟩
  rw [hq]
  replace hq := hid hq
  obtain ⟨m, hmE⟩ : ∃ m : Nat, min 20 l.length = m := ⟨_, rfl⟩
  have hm : (if (20 : Int) < l.length then (20 : Int) else l.length) = (m : Int) := by split <;> omega
  have hml : m ≤ l.length := by omega
  have hm20 := hid (show m ≤ 20 by omega)
  have hmm : min m l.length = m := by omega
  have et : l.take 20 = l.take m := by
    rw [← hmE]
    rcases Nat.le_total 20 l.length with g | g
    · rw [Nat.min_eq_left g]
    · rw [Nat.min_eq_right g, List.take_of_length_le g, List.take_of_length_le (Nat.le_refl _)]
  rw [et] at hq
  clear et hmE
  refine CS_inlineG (typesOk _) [(7, [7028, 28007, 7030, 30007])] Tryd.func26 (fun _ _ => by kernel_rfl) rfl (by kernel_rfl) (Nat.le_of_ble_eq_true rfl) ?_
  simp -dsimp -implicitDefEqProofs [-getElem?_pos, -List.map_append, -List.map_set, List.getElem?_cons_zero, List.getElem?_cons_succ, hm, hml, hmm]
  refine loop_count 15 m (fun k h n v => KeepsAt i h0 n0 d ((l.take m).drop k) q h n (v 4) ∧ ∃ d, n = n0 + d) _ rfl (by rfl) ⟨⟨fun _ _ _ => rfl, d, [], hq.out, by have := hm20.out; simp; omega, .inl ⟨rfl, rfl, rfl, rfl⟩⟩, ⟨36, rfl⟩⟩ ?_ ?_
  · rintro k t h n hk hci hs ⟨⟨hfr, D, out, hq1, hlen, hst⟩, dd, rfl⟩
    have hw : IntKind.i64.wrap ((k : Int) + 1) = (k : Int) + 1 := wrap_ok (by have := hm20.out; omega)
    obtain ⟨x, hx⟩ : ∃ x, l[k]? = some x := ⟨l[k]'(by omega), by simp⟩
    have hk' : decide (k < m) = true := by simp [hk]
    have hxm : (l.take m)[k]? = some x := by rw [List.getElem?_take, if_pos hk, hx]
    rw [drop_cons hxm] at hq1 hlen
    rw [S.putAll] at hq1
    obtain ⟨⟨X, e⟩, hp⟩ : ∃ p, S.putDisk D x = p := ⟨_, rfl⟩
    rw [hp] at hq1
    simp only [List.length_cons] at hlen hq1
    have e1 := hs 1 rfl
    have e13 := hs 13 rfl
    have e14 := hs 14 rfl
    clear hs
    simp -dsimp -implicitDefEqProofs at e1 e13 e14
    replace hk := hid hk
    have hlt : i < n0 + dd := by omega
    rcases hst with ⟨ho, hD, h4, hii⟩ | ⟨hii, y, h4, hy0, hy1, hy⟩
    · subst ho hD
      have hii0 := hii
      rw [hi] at hii
      rcases hc with ⟨hc1, hc2⟩ | hc1
      · rw [hc1] at hii
        rw [hc2] at hp
        have cp := hid ((put_eq hp).args (args2 := [.agg [.nl, .nl], .agg (recC false x)]) (.cons (.agg (.cons .nl (.cons .nl (.nil _)))) (.cons (.refl _) (.nil _))))
        clear hp
        replace hlen := hid hlen
        by_cases he : e = 0
        · subst he
          rw [if_pos rfl] at hq1
          replace hq1 := hid hq1
          simp -dsimp -implicitDefEqProofs [-getElem?_pos, -List.map_append, -List.map_set, List.getElem?_cons_zero, List.getElem?_cons_succ, e1, e13, e14, hci, hk', hx, h4, hii, hk.out, ap0 hlt, ap1 hlt, ap2 hlt, ap3 hlt, ap4 hlt, ap5 hlt, ap6 hlt, ap7 hlt, ap8 hlt, ap9 hlt, ap10 hlt, ap11 hlt, ap12 hlt, ap13 hlt, ap14 hlt, ap15 hlt, ap16 hlt, ap17 hlt]
          refine call_CC (cp.out) ?_
          simp -dsimp -implicitDefEqProofs [-getElem?_pos, -List.map_append, -List.map_set, List.getElem?_cons_zero, List.getElem?_cons_succ, e1, e13, e14, hci, hw, h4, hii, ap0 hlt, ap1 hlt, ap2 hlt, ap3 hlt, ap4 hlt, ap5 hlt, ap6 hlt, ap7 hlt, ap8 hlt, ap9 hlt, ap10 hlt, ap11 hlt, ap12 hlt, ap13 hlt, ap14 hlt, ap15 hlt, ap16 hlt, ap17 hlt]
          exact ⟨⟨fun z hz1 hz2 => by repeat (first | exact hfr z hz1 hz2 | rw [upd_ne _ _ (by omega)]), X, [x], hq1.out, by have := hlen.out; first | omega | (simp only [List.length_append, List.length_cons, List.length_nil] at this ⊢; omega), .inr ⟨upd_same _ _ _, n0 + dd + 4 + 16 + 36 + 8 + 16, rfl, by omega, by omega, by repeat (first | exact upd_same _ _ _ | rw [upd_ne _ _ (by omega)])⟩⟩, ⟨dd + 4 + 16 + 36 + 8 + 28 + 8, by omega⟩⟩
        · have he' : decide (e = 0) = false := by simp [he]
          rw [if_neg he] at hq1
          replace hq1 := hid hq1
          simp -dsimp -implicitDefEqProofs [-getElem?_pos, -List.map_append, -List.map_set, List.getElem?_cons_zero, List.getElem?_cons_succ, e1, e13, e14, hci, hk', hx, h4, hii, hk.out, ap0 hlt, ap1 hlt, ap2 hlt, ap3 hlt, ap4 hlt, ap5 hlt, ap6 hlt, ap7 hlt, ap8 hlt, ap9 hlt, ap10 hlt, ap11 hlt, ap12 hlt, ap13 hlt, ap14 hlt, ap15 hlt, ap16 hlt, ap17 hlt]
          refine call_CC (cp.out) ?_
          simp -dsimp -implicitDefEqProofs [-getElem?_pos, -List.map_append, -List.map_set, List.getElem?_cons_zero, List.getElem?_cons_succ, e1, e13, e14, hci, hw, he', he, h4, hii, ap0 hlt, ap1 hlt, ap2 hlt, ap3 hlt, ap4 hlt, ap5 hlt, ap6 hlt, ap7 hlt, ap8 hlt, ap9 hlt, ap10 hlt, ap11 hlt, ap12 hlt, ap13 hlt, ap14 hlt, ap15 hlt, ap16 hlt, ap17 hlt]
          exact ⟨⟨fun z hz1 hz2 => by repeat (first | exact hfr z hz1 hz2 | rw [upd_ne _ _ (by omega)]), D, [], hq1.out, by have := hlen.out; first | omega | (simp only [List.length_append, List.length_cons, List.length_nil] at this ⊢; omega), .inl ⟨rfl, rfl, by simp -dsimp [h4], by repeat (first | exact hii0 | rw [upd_ne _ _ (by omega)])⟩⟩, ⟨dd + 4 + 16 + 36 + 8 + 8, by omega⟩⟩
      · rw [hc1] at hii
        have cp := hid (put_eq hp)
        clear hp
        replace hlen := hid hlen
        by_cases he : e = 0
        · subst he
          rw [if_pos rfl] at hq1
          replace hq1 := hid hq1
          simp -dsimp -implicitDefEqProofs [-getElem?_pos, -List.map_append, -List.map_set, List.getElem?_cons_zero, List.getElem?_cons_succ, e1, e13, e14, hci, hk', hx, h4, hii, hk.out, ap0 hlt, ap1 hlt, ap2 hlt, ap3 hlt, ap4 hlt, ap5 hlt, ap6 hlt, ap7 hlt, ap8 hlt, ap9 hlt, ap10 hlt, ap11 hlt, ap12 hlt, ap13 hlt, ap14 hlt, ap15 hlt, ap16 hlt, ap17 hlt]
          refine call_CC (cp.out) ?_
          simp -dsimp -implicitDefEqProofs [-getElem?_pos, -List.map_append, -List.map_set, List.getElem?_cons_zero, List.getElem?_cons_succ, e1, e13, e14, hci, hw, h4, hii, ap0 hlt, ap1 hlt, ap2 hlt, ap3 hlt, ap4 hlt, ap5 hlt, ap6 hlt, ap7 hlt, ap8 hlt, ap9 hlt, ap10 hlt, ap11 hlt, ap12 hlt, ap13 hlt, ap14 hlt, ap15 hlt, ap16 hlt, ap17 hlt]
          exact ⟨⟨fun z hz1 hz2 => by repeat (first | exact hfr z hz1 hz2 | rw [upd_ne _ _ (by omega)]), X, [x], hq1.out, by have := hlen.out; first | omega | (simp only [List.length_append, List.length_cons, List.length_nil] at this ⊢; omega), .inr ⟨upd_same _ _ _, n0 + dd + 4 + 16 + 36 + 8 + 16, rfl, by omega, by omega, by repeat (first | exact upd_same _ _ _ | rw [upd_ne _ _ (by omega)])⟩⟩, ⟨dd + 4 + 16 + 36 + 8 + 28 + 8, by omega⟩⟩
        · have he' : decide (e = 0) = false := by simp [he]
          rw [if_neg he] at hq1
          replace hq1 := hid hq1
          simp -dsimp -implicitDefEqProofs [-getElem?_pos, -List.map_append, -List.map_set, List.getElem?_cons_zero, List.getElem?_cons_succ, e1, e13, e14, hci, hk', hx, h4, hii, hk.out, ap0 hlt, ap1 hlt, ap2 hlt, ap3 hlt, ap4 hlt, ap5 hlt, ap6 hlt, ap7 hlt, ap8 hlt, ap9 hlt, ap10 hlt, ap11 hlt, ap12 hlt, ap13 hlt, ap14 hlt, ap15 hlt, ap16 hlt, ap17 hlt]
          refine call_CC (cp.out) ?_
          simp -dsimp -implicitDefEqProofs [-getElem?_pos, -List.map_append, -List.map_set, List.getElem?_cons_zero, List.getElem?_cons_succ, e1, e13, e14, hci, hw, he', he, h4, hii, ap0 hlt, ap1 hlt, ap2 hlt, ap3 hlt, ap4 hlt, ap5 hlt, ap6 hlt, ap7 hlt, ap8 hlt, ap9 hlt, ap10 hlt, ap11 hlt, ap12 hlt, ap13 hlt, ap14 hlt, ap15 hlt, ap16 hlt, ap17 hlt]
          exact ⟨⟨fun z hz1 hz2 => by repeat (first | exact hfr z hz1 hz2 | rw [upd_ne _ _ (by omega)]), D, [], hq1.out, by have := hlen.out; first | omega | (simp only [List.length_append, List.length_cons, List.length_nil] at this ⊢; omega), .inl ⟨rfl, rfl, by simp -dsimp [h4], by repeat (first | exact hii0 | rw [upd_ne _ _ (by omega)])⟩⟩, ⟨dd + 4 + 16 + 36 + 8 + 8, by omega⟩⟩
    · have cp := hid (put_eq hp)
      clear hp
      have hyi : ¬ y = i := by omega
      have hiy : ¬ i = y := by omega
      have hz : decide (out.length ≤ 100000000) = true := by simp; omega
      replace hlen := hid hlen
      by_cases he : e = 0
      · subst he
        rw [if_pos rfl] at hq1
        replace hq1 := hid hq1
        simp -dsimp -implicitDefEqProofs [-getElem?_pos, -List.map_append, -List.map_set, List.getElem?_cons_zero, List.getElem?_cons_succ, e1, e13, e14, hci, hk', hx, h4, hii, hk.out, ap0 hlt, ap1 hlt, ap2 hlt, ap3 hlt, ap4 hlt, ap5 hlt, ap6 hlt, ap7 hlt, ap8 hlt, ap9 hlt, ap10 hlt, ap11 hlt, ap12 hlt, ap13 hlt, ap14 hlt, ap15 hlt, ap16 hlt, ap17 hlt, ap0 hy1, ap1 hy1, ap2 hy1, ap3 hy1, ap4 hy1, ap5 hy1, ap6 hy1, ap7 hy1, ap8 hy1, ap9 hy1, ap10 hy1, ap11 hy1, ap12 hy1, ap13 hy1, ap14 hy1, ap15 hy1, ap16 hy1, ap17 hy1]
        refine call_CC (cp.out) ?_
        simp -dsimp -implicitDefEqProofs [-getElem?_pos, -List.map_append, -List.map_set, List.getElem?_cons_zero, List.getElem?_cons_succ, e1, e13, e14, hci, hw, h4, hii, hy, hz, hyi, hiy, ap0 hlt, ap1 hlt, ap2 hlt, ap3 hlt, ap4 hlt, ap5 hlt, ap6 hlt, ap7 hlt, ap8 hlt, ap9 hlt, ap10 hlt, ap11 hlt, ap12 hlt, ap13 hlt, ap14 hlt, ap15 hlt, ap16 hlt, ap17 hlt, ap0 hy1, ap1 hy1, ap2 hy1, ap3 hy1, ap4 hy1, ap5 hy1, ap6 hy1, ap7 hy1, ap8 hy1, ap9 hy1, ap10 hy1, ap11 hy1, ap12 hy1, ap13 hy1, ap14 hy1, ap15 hy1, ap16 hy1, ap17 hy1]
        exact ⟨⟨fun z hz1 hz2 => by repeat (first | exact hfr z hz1 hz2 | rw [upd_ne _ _ (by omega)]), X, out ++ [x], hq1.out, by have := hlen.out; first | omega | (simp only [List.length_append, List.length_cons, List.length_nil] at this ⊢; omega), .inr ⟨upd_same _ _ _, n0 + dd + 4 + 16 + 36 + 8 + 16, by simp, by omega, by omega, by repeat (first | exact (upd_same _ _ _).trans (by simp) | rw [upd_ne _ _ (by omega)])⟩⟩, ⟨dd + 4 + 16 + 36 + 8 + 28 + 8, by omega⟩⟩
      · have he' : decide (e = 0) = false := by simp [he]
        rw [if_neg he] at hq1
        replace hq1 := hid hq1
        simp -dsimp -implicitDefEqProofs [-getElem?_pos, -List.map_append, -List.map_set, List.getElem?_cons_zero, List.getElem?_cons_succ, e1, e13, e14, hci, hk', hx, h4, hii, hk.out, ap0 hlt, ap1 hlt, ap2 hlt, ap3 hlt, ap4 hlt, ap5 hlt, ap6 hlt, ap7 hlt, ap8 hlt, ap9 hlt, ap10 hlt, ap11 hlt, ap12 hlt, ap13 hlt, ap14 hlt, ap15 hlt, ap16 hlt, ap17 hlt, ap0 hy1, ap1 hy1, ap2 hy1, ap3 hy1, ap4 hy1, ap5 hy1, ap6 hy1, ap7 hy1, ap8 hy1, ap9 hy1, ap10 hy1, ap11 hy1, ap12 hy1, ap13 hy1, ap14 hy1, ap15 hy1, ap16 hy1, ap17 hy1]
        refine call_CC (cp.out) ?_
        simp -dsimp -implicitDefEqProofs [-getElem?_pos, -List.map_append, -List.map_set, List.getElem?_cons_zero, List.getElem?_cons_succ, e1, e13, e14, hci, hw, he', he, h4, hii, ap0 hlt, ap1 hlt, ap2 hlt, ap3 hlt, ap4 hlt, ap5 hlt, ap6 hlt, ap7 hlt, ap8 hlt, ap9 hlt, ap10 hlt, ap11 hlt, ap12 hlt, ap13 hlt, ap14 hlt, ap15 hlt, ap16 hlt, ap17 hlt, ap0 hy1, ap1 hy1, ap2 hy1, ap3 hy1, ap4 hy1, ap5 hy1, ap6 hy1, ap7 hy1, ap8 hy1, ap9 hy1, ap10 hy1, ap11 hy1, ap12 hy1, ap13 hy1, ap14 hy1, ap15 hy1, ap16 hy1, ap17 hy1]
        exact ⟨⟨fun z hz1 hz2 => by repeat (first | exact hfr z hz1 hz2 | rw [upd_ne _ _ (by omega)]), D, out, hq1.out, by have := hlen.out; first | omega | (simp only [List.length_append, List.length_cons, List.length_nil] at this ⊢; omega), .inr ⟨by repeat (first | exact hii | rw [upd_ne _ _ (by omega)]), y, rfl, hy0, by omega, by repeat (first | exact hy | rw [upd_ne _ _ (by omega)])⟩⟩, ⟨dd + 4 + 16 + 36 + 8 + 8, by omega⟩⟩
  · rintro t h n hci hs ⟨⟨hfr, D, out, hq1, hlen, hst⟩, dd, rfl⟩
    have e1 := hs 1 rfl
    have e13 := hs 13 rfl
    have e14 := hs 14 rfl
    clear hs
    simp -dsimp -implicitDefEqProofs at e1 e13 e14
    rw [List.drop_eq_nil_of_le (by simp; omega), S.putAll] at hq1
    simp -dsimp -implicitDefEqProofs [-getElem?_pos, -List.map_append, -List.map_set, List.getElem?_cons_zero, List.getElem?_cons_succ, e1, e13, e14, hci]
    subst hq1
    rcases hst with ⟨ho, hD, h4, hii⟩ | ⟨hii, y, h4, hy0, hy1, hy⟩
    · exact ⟨by omega, hfr, .inl ⟨ho, hD, h4, hii⟩⟩
    · exact ⟨by omega, hfr, .inr ⟨hii, y, h4, hy0, by omega, hy⟩⟩

theorem call_keeps {id : Nat} {args : List AV} {t : Nat → AV} {h : Heap} {n : Nat} {d : Option Tmp} {K : St → Prop} {i j} {Q : Heap → Nat → AV → Prop} (hC : CS Tryd.prog 26 args h n Q) (hk : ∀ h' n' r, Q h' n' r → K (St.put ⟨t, h', n'⟩ d r)) : callA Tryd.prog false id 26 args t h n d K i j :=
  call_CS (hC.mono' hk)

theorem view_recs {h : Heap} {i n : Nat} {ty : TypeId} {rows : List (List AV)} {L : List S.Rec} (hi : h i = some ⟨ty, 7, rows⟩) (hr : rows.take n = L.map (recC false)) (hn : n ≤ rows.length) : viewV h (.own i 0 n) = some (.lst false 7 (L.map (recC false))) := by
  show (match h i with | some e => if 0 + n ≤ e.rows.length then (((e.rows.drop 0).take n).mapM fun (r : List AV) => r.mapM (leafP h [] 2)).map (AV.lst false e.s ·) else none | none => none) = _
  rw [hi]
  simp only [List.drop_zero]
  rw [if_pos (by omega), hr, plain_rows (fun r hr => by obtain ⟨x, _, rfl⟩ := List.mem_map.1 hr; exact recs_plain x)]
  rw [List.map_map]
  rfl
theorem view3 {h : Heap} {a b c a' b' c' : AV} (h1 : viewV h a = some a') (h2 : viewV h b = some b') (h3 : viewV h c = some c') : [a, b, c].mapM (viewV h) = some [a', b', c'] := by
  rw [List.mapM_cons, h1, List.mapM_cons, h2, List.mapM_cons, h3]
  rfl

theorem law_DiskKeeps (a b : List S.Rec) (k : Int) : C Tryd.prog 7 [.lst false 7 (a.map (recC false)), .lst false 7 (b.map (recC false)), Int' k] (Bool' true) [] := by
  obtain ⟨xs, hp1, hx1, hx2⟩ := S.putAll_text (a := []) (by simp) (by simp) (a.take 20) [] (by simp) (by simp; omega)
  obtain ⟨ys, hp2, hy1, hy2⟩ := S.putAll_text (a := xs) hx1 (by omega) (b.take 20) [] (by simp) (by simp; omega)
  have hs1 := S.sync_text (l := []) (m := xs) (by simp) hx1 (by simp; omega)
  simp only [List.nil_append] at hs1
  have l2 := S.textOf_len hy1
  have ca := at_law k (((S.textOf ys).length : Int) + 1) (by omega)
  have e2 := Int.emod_nonneg k (by omega : ((S.textOf ys).length : Int) + 1 ≠ 0)
  have e3 := Int.emod_lt_of_pos k (by omega : 0 < ((S.textOf ys).length : Int) + 1)
  obtain ⟨j, hj⟩ : ∃ j : Nat, k % (((S.textOf ys).length : Int) + 1) = j := ⟨(k % (((S.textOf ys).length : Int) + 1)).toNat, by omega⟩
  rw [hj] at ca e3
  obtain ⟨u, p, hc, hr, hu⟩ := S.crash_text hx1 hx2 hy1 hy2 (k := j) (by omega)
  have hz1 : ∀ r, r ∈ xs ++ ys.take u → S.checkRec r = 0 := fun r hr => (List.mem_append.1 hr).elim (hx1 r) (fun g => hy1 r (List.mem_of_mem_take g))
  have hq := S.recover_text hz1 (by simp; omega)
  have hL1 : xs.length ≤ (xs ++ ys.take u).length := by simp
  have hL2 : (xs ++ ys.take u).length ≤ xs.length + ys.length := by simp; omega
  have hL3 : (xs ++ ys).take (xs ++ ys.take u).length = xs ++ ys.take u := by
    rw [List.length_append, List.take_length_add_append, List.length_take, Nat.min_eq_left hu]
  have hn1 : xs = [] → S.textOf xs = [] := fun g => by rw [g]; rfl
  have hn2 : ys = [] → S.textOf ys = [] := fun g => by rw [g]; rfl
  have hz0 : (S.Disk.zero : S.Disk) = ⟨S.textOf [], S.textOf []⟩ := rfl
  rw [← hz0] at hp1
  rw [show S.textOf ([] : List S.Rec) = [] from rfl] at hp1 hp2 hs1
  obtain ⟨Z, hZe⟩ : ∃ Z, xs ++ ys = Z := ⟨_, rfl⟩
  have cat0 : ∀ {va vb : AV}, RowsOf va xs → RowsOf vb ys → C Tryd.prog 33 [.lst false 1 [[va], [vb]]] (.lst false 7 (Z.map (recC false))) [] := fun ha hb => hZe ▸ concat_recs2 ha hb (by omega) (by omega)
  rw [hZe] at hL3
  have hZl : (xs ++ ys.take u).length ≤ Z.length := by rw [← hZe]; simp; omega
  have hL4 : (Z.map (recC false)).take (xs ++ ys.take u).length = (xs ++ ys.take u).map (recC false) := by rw [← List.map_take, hL3]
  have hZ' := hid hZe
  clear hZe hL3
  generalize S.textOf (xs ++ ys.take u) = R at *
  generalize xs ++ ys.take u = L at *
  generalize S.textOf (ys.take u) ++ p = P at *
  have hYl : (S.textOf ys).length ≤ 5000 := by omega
  generalize S.textOf xs = A at *
  generalize S.textOf ys = Y at *
  have w1 : IntKind.i64.wrap ((Y.length : Int) + 1) = (Y.length : Int) + 1 := wrap_ok (by omega)
  have w2 : IntKind.i64.wrap ((xs.length : Int) + ys.length) = (xs.length : Int) + ys.length := wrap_ok (by omega)
  have g1 : decide (L.length < xs.length) = false := by simp; omega
  have g2 : decide (xs.length + ys.length < L.length) = false := by simp; omega
  have g2' : decide ((xs.length : Int) + ys.length < (L.length : Int)) = false := by simp; omega
  have f0 : decide ((L.length : Int) < 0) = false := by simp
  have v1 : IntKind.i64.wrap (xs.length : Int) = xs.length := wrap_ok (by omega)
  have v2 : IntKind.i64.wrap (ys.length : Int) = ys.length := wrap_ok (by omega)
  have hLL := hid hL2
  have cs := hid (sync_eq hs1)
  have cc := hid (crash_eq hc)
  have cr := hid (recover_eq hr)
  have cq := hid (recover_eq hq)
  have cd : C Tryd.prog 34 [.agg (diskC false ⟨R, []⟩), .agg (diskC false ⟨R, []⟩)] (Bool' true) [] := by
    have := disk_Same ⟨R, []⟩ ⟨R, []⟩
    rwa [decide_eq_true rfl] at this
  have ce : C Tryd.prog 32 [.lst false 7 (L.map (recC false)), .lst false 7 (L.map (recC false)), .fn 19 []] (Bool' true) [] := by
    have := equal_recs L L
    rwa [decide_eq_true rfl] at this
  replace ca := hid ca
  replace ce := hid ce
  replace cd := hid cd
  have hx2' := hid hx2
  have hy2' := hid hy2
  replace hp1 := hid hp1
  replace hp2 := hid hp2
  have d1 : decide ((xs.length : Int) < 0) = false := by simp
  have d1' : decide ((ys.length : Int) < 0) = false := by simp
  have d2 : decide ((xs.length : Int) + ys.length < 0) = false := by simp; omega
  have d3 : decide (100000000 < xs.length) = false := by simp; omega
  have d4 : decide (100000000 < ys.length) = false := by simp; omega
  have d5 : xs.length ≤ 100000000 := by omega
  clear hs1 hc hr hq hz1 hu e2 e3 hj l2 hx1 hy1 hL1 hL2 hYl hz0 hx2 hy2
  refine C_inline [] Tryd.func7 (fun _ _ => by kernel_rfl) rfl (by kernel_rfl) (by rfl) (by decide) (by rfl) (by rfl) (by rfl) ?_
  simp -dsimp -implicitDefEqProofs [-getElem?_pos, -List.map_append, -List.map_set, List.getElem?_cons_zero, List.getElem?_cons_succ]
  refine call_CC (law_filed) ?_
  simp -dsimp -implicitDefEqProofs [-getElem?_pos, -List.map_append, -List.map_set, List.getElem?_cons_zero, List.getElem?_cons_succ]
  refine call_keeps (keeps_put a 12 40 _ [.nl, .nl] S.Disk.zero (.inl ⟨rfl, rfl⟩) (upd_same _ _ _) (by omega)) ?_
  rw [hp1.out]
  rintro h1 n1 r1 ⟨hn1', hf1, hst⟩
  have hlt1 : 12 < n1 := by omega
  rcases hst with ⟨ho, hD, rfl, hi1⟩ | ⟨hi1, y, rfl, hy0, hy1, hyh⟩
  · simp only at ho hD
    subst ho
    obtain rfl := hn1 rfl
    rw [upd_same] at hi1
    replace cs := hid (cs.out.args (args2 := [.agg [.nl, .nl]]) (.cons (.agg (.cons .nl (.cons .nl (.nil _)))) (.nil _)))
    clear hD hn1
    simp -dsimp -implicitDefEqProofs [-getElem?_pos, -List.map_append, -List.map_set, List.getElem?_cons_zero, List.getElem?_cons_succ, hi1, ap0 hlt1, ap1 hlt1, ap2 hlt1, ap3 hlt1, ap4 hlt1, ap5 hlt1, ap6 hlt1, ap7 hlt1, ap8 hlt1, ap9 hlt1, ap10 hlt1, ap11 hlt1, ap12 hlt1, ap13 hlt1, ap14 hlt1, ap15 hlt1, ap16 hlt1, ap17 hlt1]
    refine call_CC (cs.out) ?_
    simp -dsimp -implicitDefEqProofs [-getElem?_pos, -List.map_append, -List.map_set, List.getElem?_cons_zero, List.getElem?_cons_succ, hi1, ap0 hlt1, ap1 hlt1, ap2 hlt1, ap3 hlt1, ap4 hlt1, ap5 hlt1, ap6 hlt1, ap7 hlt1, ap8 hlt1, ap9 hlt1, ap10 hlt1, ap11 hlt1, ap12 hlt1, ap13 hlt1, ap14 hlt1, ap15 hlt1, ap16 hlt1, ap17 hlt1]
    refine call_keeps (keeps_put b 12 _ _ (diskC true ⟨[], []⟩) ⟨[], []⟩ (.inr rfl) (by simp -dsimp) (by omega)) ?_
    rw [hp2.out]
    rintro h2 n2 r2 ⟨hn2', hf2, hst⟩
    have hlt2 : 12 < n2 := by omega
    rcases hst with ⟨ho2, hD2, rfl, hi2⟩ | ⟨hi2, z, rfl, hz0, hz1, hzh⟩
    · simp only at ho2 hD2
      subst ho2
      obtain rfl := hn2 rfl
      rw [upd_same] at hi2
      clear hD2 hn2
      replace ca := hid (show C Tryd.prog 30 [Int' k, Int' 1] (Int' j) [] from ca.out)
      simp -dsimp -implicitDefEqProofs [-getElem?_pos, -List.map_append, -List.map_set, List.getElem?_cons_zero, List.getElem?_cons_succ, hi2, ap0 hlt2, ap1 hlt2, ap2 hlt2, ap3 hlt2, ap4 hlt2, ap5 hlt2, ap6 hlt2, ap7 hlt2, ap8 hlt2, ap9 hlt2, ap10 hlt2, ap11 hlt2, ap12 hlt2, ap13 hlt2, ap14 hlt2, ap15 hlt2, ap16 hlt2, ap17 hlt2]
      refine call_CC (ca.out) ?_
      simp -dsimp -implicitDefEqProofs [-getElem?_pos, -List.map_append, -List.map_set, List.getElem?_cons_zero, List.getElem?_cons_succ, hi2, ap0 hlt2, ap1 hlt2, ap2 hlt2, ap3 hlt2, ap4 hlt2, ap5 hlt2, ap6 hlt2, ap7 hlt2, ap8 hlt2, ap9 hlt2, ap10 hlt2, ap11 hlt2, ap12 hlt2, ap13 hlt2, ap14 hlt2, ap15 hlt2, ap16 hlt2, ap17 hlt2]
      refine call_CC (cc.out) ?_
      simp -dsimp -implicitDefEqProofs [-getElem?_pos, -List.map_append, -List.map_set, List.getElem?_cons_zero, List.getElem?_cons_succ, hi2, ap0 hlt2, ap1 hlt2, ap2 hlt2, ap3 hlt2, ap4 hlt2, ap5 hlt2, ap6 hlt2, ap7 hlt2, ap8 hlt2, ap9 hlt2, ap10 hlt2, ap11 hlt2, ap12 hlt2, ap13 hlt2, ap14 hlt2, ap15 hlt2, ap16 hlt2, ap17 hlt2]
      refine call_CC (cr.out) ?_
      have g5 : decide (0 < L.length) = false := by have := hLL.out; simp at this ⊢; omega
      have hg := grow_recs (0) (by have := hx2'.out; have := hy2'.out; omega)
      replace hg := hid hg
      simp -dsimp -implicitDefEqProofs [-getElem?_pos, -List.map_append, -List.map_set, List.getElem?_cons_zero, List.getElem?_cons_succ, hi2, f0, v1, v2, g1, g2, g2', w2, g5, d1, d1', d2, d3, d4, d5, ap0 hlt2, ap1 hlt2, ap2 hlt2, ap3 hlt2, ap4 hlt2, ap5 hlt2, ap6 hlt2, ap7 hlt2, ap8 hlt2, ap9 hlt2, ap10 hlt2, ap11 hlt2, ap12 hlt2, ap13 hlt2, ap14 hlt2, ap15 hlt2, ap16 hlt2, ap17 hlt2, ap18 hlt2, ap19 hlt2, ap20 hlt2, ap21 hlt2, ap22 hlt2, ap23 hlt2, ap24 hlt2, ap25 hlt2, ap26 hlt2, ap27 hlt2, ap28 hlt2, ap29 hlt2, ap30 hlt2, ap31 hlt2, ap32 hlt2, ap33 hlt2, ap34 hlt2, ap35 hlt2, ap36 hlt2, ap37 hlt2, ap38 hlt2, ap39 hlt2, ap40 hlt2, ap41 hlt2, ap42 hlt2, ap43 hlt2]
      refine call_CS (CS_inline (typesOk _) Tryd.func33 (fun _ _ => by kernel_rfl) rfl (by kernel_rfl) (Nat.le_of_ble_eq_true rfl) ?_)
      simp -dsimp -implicitDefEqProofs [-getElem?_pos, -List.map_append, -List.map_set, List.getElem?_cons_zero, List.getElem?_cons_succ, hi2, f0, v1, v2, g1, g2, g2', w2, g5, d1, d1', d2, d3, d4, d5, ap0 hlt2, ap1 hlt2, ap2 hlt2, ap3 hlt2, ap4 hlt2, ap5 hlt2, ap6 hlt2, ap7 hlt2, ap8 hlt2, ap9 hlt2, ap10 hlt2, ap11 hlt2, ap12 hlt2, ap13 hlt2, ap14 hlt2, ap15 hlt2, ap16 hlt2, ap17 hlt2, ap18 hlt2, ap19 hlt2, ap20 hlt2, ap21 hlt2, ap22 hlt2, ap23 hlt2, ap24 hlt2, ap25 hlt2, ap26 hlt2, ap27 hlt2, ap28 hlt2, ap29 hlt2, ap30 hlt2, ap31 hlt2, ap32 hlt2, ap33 hlt2, ap34 hlt2, ap35 hlt2, ap36 hlt2, ap37 hlt2, ap38 hlt2, ap39 hlt2, ap40 hlt2, ap41 hlt2, ap42 hlt2, ap43 hlt2]
      refine loop_unroll 3 ?_
      simp -dsimp -implicitDefEqProofs [-getElem?_pos, -List.map_append, -List.map_set, List.getElem?_cons_zero, List.getElem?_cons_succ, hi2, f0, v1, v2, g1, g2, g2', w2, g5, d1, d1', d2, d3, d4, d5, ap0 hlt2, ap1 hlt2, ap2 hlt2, ap3 hlt2, ap4 hlt2, ap5 hlt2, ap6 hlt2, ap7 hlt2, ap8 hlt2, ap9 hlt2, ap10 hlt2, ap11 hlt2, ap12 hlt2, ap13 hlt2, ap14 hlt2, ap15 hlt2, ap16 hlt2, ap17 hlt2, ap18 hlt2, ap19 hlt2, ap20 hlt2, ap21 hlt2, ap22 hlt2, ap23 hlt2, ap24 hlt2, ap25 hlt2, ap26 hlt2, ap27 hlt2, ap28 hlt2, ap29 hlt2, ap30 hlt2, ap31 hlt2, ap32 hlt2, ap33 hlt2, ap34 hlt2, ap35 hlt2, ap36 hlt2, ap37 hlt2, ap38 hlt2, ap39 hlt2, ap40 hlt2, ap41 hlt2, ap42 hlt2, ap43 hlt2]
      refine call_CC (hg.out) ?_
      simp -dsimp -implicitDefEqProofs [-getElem?_pos, -List.map_append, -List.map_set, List.getElem?_cons_zero, List.getElem?_cons_succ, hi2, f0, v1, v2, g1, g2, g2', w2, g5, d1, d1', d2, d3, d4, d5, hZl, ap0 hlt2, ap1 hlt2, ap2 hlt2, ap3 hlt2, ap4 hlt2, ap5 hlt2, ap6 hlt2, ap7 hlt2, ap8 hlt2, ap9 hlt2, ap10 hlt2, ap11 hlt2, ap12 hlt2, ap13 hlt2, ap14 hlt2, ap15 hlt2, ap16 hlt2, ap17 hlt2, ap18 hlt2, ap19 hlt2, ap20 hlt2, ap21 hlt2, ap22 hlt2, ap23 hlt2, ap24 hlt2, ap25 hlt2, ap26 hlt2, ap27 hlt2, ap28 hlt2, ap29 hlt2, ap30 hlt2, ap31 hlt2, ap32 hlt2, ap33 hlt2, ap34 hlt2, ap35 hlt2, ap36 hlt2, ap37 hlt2, ap38 hlt2, ap39 hlt2, ap40 hlt2, ap41 hlt2, ap42 hlt2, ap43 hlt2]
      refine loop_unroll 3 ?_
      simp -dsimp -implicitDefEqProofs [-getElem?_pos, -List.map_append, -List.map_set, List.getElem?_cons_zero, List.getElem?_cons_succ, hi2, f0, v1, v2, g1, g2, g2', w2, g5, d1, d1', d2, d3, d4, d5, hZl, ap0 hlt2, ap1 hlt2, ap2 hlt2, ap3 hlt2, ap4 hlt2, ap5 hlt2, ap6 hlt2, ap7 hlt2, ap8 hlt2, ap9 hlt2, ap10 hlt2, ap11 hlt2, ap12 hlt2, ap13 hlt2, ap14 hlt2, ap15 hlt2, ap16 hlt2, ap17 hlt2, ap18 hlt2, ap19 hlt2, ap20 hlt2, ap21 hlt2, ap22 hlt2, ap23 hlt2, ap24 hlt2, ap25 hlt2, ap26 hlt2, ap27 hlt2, ap28 hlt2, ap29 hlt2, ap30 hlt2, ap31 hlt2, ap32 hlt2, ap33 hlt2, ap34 hlt2, ap35 hlt2, ap36 hlt2, ap37 hlt2, ap38 hlt2, ap39 hlt2, ap40 hlt2, ap41 hlt2, ap42 hlt2, ap43 hlt2]
      have hL0 : L = [] := by simpa using hLL.out
      have g6 : decide (L = []) = true := by simp [hL0]
      simp -dsimp -implicitDefEqProofs [-getElem?_pos, -List.map_append, -List.map_set, List.getElem?_cons_zero, List.getElem?_cons_succ, g6]
      refine call_CC (ce.out) ?_ (view3 rfl (view_recs (upd_same _ _ _) (by have := hL4; rw [← hZ'.out] at this; simpa using this) (by have := hLL.out; simp at this ⊢; omega)) rfl) (.inl ⟨rfl, rfl⟩)
      simp -dsimp -implicitDefEqProofs [-getElem?_pos, -List.map_append, -List.map_set, List.getElem?_cons_zero, List.getElem?_cons_succ, ap0 hlt2, ap1 hlt2, ap2 hlt2, ap3 hlt2, ap4 hlt2, ap5 hlt2, ap6 hlt2, ap7 hlt2, ap8 hlt2, ap9 hlt2, ap10 hlt2, ap11 hlt2, ap12 hlt2, ap13 hlt2, ap14 hlt2, ap15 hlt2, ap16 hlt2, ap17 hlt2, ap18 hlt2, ap19 hlt2, ap20 hlt2, ap21 hlt2, ap22 hlt2, ap23 hlt2, ap24 hlt2, ap25 hlt2, ap26 hlt2, ap27 hlt2, ap28 hlt2, ap29 hlt2, ap30 hlt2, ap31 hlt2, ap32 hlt2, ap33 hlt2, ap34 hlt2, ap35 hlt2, ap36 hlt2, ap37 hlt2, ap38 hlt2, ap39 hlt2, ap40 hlt2, ap41 hlt2, ap42 hlt2, ap43 hlt2]
      refine call_CC (cq.out) ?_
      simp -dsimp -implicitDefEqProofs [-getElem?_pos, -List.map_append, -List.map_set, List.getElem?_cons_zero, List.getElem?_cons_succ, ap0 hlt2, ap1 hlt2, ap2 hlt2, ap3 hlt2, ap4 hlt2, ap5 hlt2, ap6 hlt2, ap7 hlt2, ap8 hlt2, ap9 hlt2, ap10 hlt2, ap11 hlt2, ap12 hlt2, ap13 hlt2, ap14 hlt2, ap15 hlt2, ap16 hlt2, ap17 hlt2, ap18 hlt2, ap19 hlt2, ap20 hlt2, ap21 hlt2, ap22 hlt2, ap23 hlt2, ap24 hlt2, ap25 hlt2, ap26 hlt2, ap27 hlt2, ap28 hlt2, ap29 hlt2, ap30 hlt2, ap31 hlt2, ap32 hlt2, ap33 hlt2, ap34 hlt2, ap35 hlt2, ap36 hlt2, ap37 hlt2, ap38 hlt2, ap39 hlt2, ap40 hlt2, ap41 hlt2, ap42 hlt2, ap43 hlt2]
      refine call_CC (cd.out) ?_
      simp -dsimp -implicitDefEqProofs [-getElem?_pos, -List.map_append, -List.map_set, List.getElem?_cons_zero, List.getElem?_cons_succ, ap0 hlt2, ap1 hlt2, ap2 hlt2, ap3 hlt2, ap4 hlt2, ap5 hlt2, ap6 hlt2, ap7 hlt2, ap8 hlt2, ap9 hlt2, ap10 hlt2, ap11 hlt2, ap12 hlt2, ap13 hlt2, ap14 hlt2, ap15 hlt2, ap16 hlt2, ap17 hlt2, ap18 hlt2, ap19 hlt2, ap20 hlt2, ap21 hlt2, ap22 hlt2, ap23 hlt2, ap24 hlt2, ap25 hlt2, ap26 hlt2, ap27 hlt2, ap28 hlt2, ap29 hlt2, ap30 hlt2, ap31 hlt2, ap32 hlt2, ap33 hlt2, ap34 hlt2, ap35 hlt2, ap36 hlt2, ap37 hlt2, ap38 hlt2, ap39 hlt2, ap40 hlt2, ap41 hlt2, ap42 hlt2, ap43 hlt2]
      refine call_CC (ce.out) ?_
      simp -dsimp -implicitDefEqProofs [-getElem?_pos, -List.map_append, -List.map_set, List.getElem?_cons_zero, List.getElem?_cons_succ, ap0 hlt2, ap1 hlt2, ap2 hlt2, ap3 hlt2, ap4 hlt2, ap5 hlt2, ap6 hlt2, ap7 hlt2, ap8 hlt2, ap9 hlt2, ap10 hlt2, ap11 hlt2, ap12 hlt2, ap13 hlt2, ap14 hlt2, ap15 hlt2, ap16 hlt2, ap17 hlt2, ap18 hlt2, ap19 hlt2, ap20 hlt2, ap21 hlt2, ap22 hlt2, ap23 hlt2, ap24 hlt2, ap25 hlt2, ap26 hlt2, ap27 hlt2, ap28 hlt2, ap29 hlt2, ap30 hlt2, ap31 hlt2, ap32 hlt2, ap33 hlt2, ap34 hlt2, ap35 hlt2, ap36 hlt2, ap37 hlt2, ap38 hlt2, ap39 hlt2, ap40 hlt2, ap41 hlt2, ap42 hlt2, ap43 hlt2]
      exact ends_bool rfl
    · simp only at hi2 hzh
      simp -dsimp -implicitDefEqProofs [-getElem?_pos, -List.map_append, -List.map_set, List.getElem?_cons_zero, List.getElem?_cons_succ, hi2, w1, ap0 hlt2, ap1 hlt2, ap2 hlt2, ap3 hlt2, ap4 hlt2, ap5 hlt2, ap6 hlt2, ap7 hlt2, ap8 hlt2, ap9 hlt2, ap10 hlt2, ap11 hlt2, ap12 hlt2, ap13 hlt2, ap14 hlt2, ap15 hlt2, ap16 hlt2, ap17 hlt2, hzh]
      refine call_CC (ca.out) ?_
      simp -dsimp -implicitDefEqProofs [-getElem?_pos, -List.map_append, -List.map_set, List.getElem?_cons_zero, List.getElem?_cons_succ, hi2, ap0 hlt2, ap1 hlt2, ap2 hlt2, ap3 hlt2, ap4 hlt2, ap5 hlt2, ap6 hlt2, ap7 hlt2, ap8 hlt2, ap9 hlt2, ap10 hlt2, ap11 hlt2, ap12 hlt2, ap13 hlt2, ap14 hlt2, ap15 hlt2, ap16 hlt2, ap17 hlt2, hzh]
      refine call_CC (cc.out) ?_
      simp -dsimp -implicitDefEqProofs [-getElem?_pos, -List.map_append, -List.map_set, List.getElem?_cons_zero, List.getElem?_cons_succ, hi2, ap0 hlt2, ap1 hlt2, ap2 hlt2, ap3 hlt2, ap4 hlt2, ap5 hlt2, ap6 hlt2, ap7 hlt2, ap8 hlt2, ap9 hlt2, ap10 hlt2, ap11 hlt2, ap12 hlt2, ap13 hlt2, ap14 hlt2, ap15 hlt2, ap16 hlt2, ap17 hlt2, hzh]
      refine call_CC (cr.out) ?_
      have g5 : decide (ys.length < L.length) = false := by have := hLL.out; simp at this ⊢; omega
      have hz12 : ¬ z = 12 := by omega
      have hg := grow_recs (ys.length) (by have := hx2'.out; have := hy2'.out; omega)
      replace hg := hid hg
      simp -dsimp -implicitDefEqProofs [-getElem?_pos, -List.map_append, -List.map_set, List.getElem?_cons_zero, List.getElem?_cons_succ, hi2, f0, v1, v2, g1, g2, g2', w2, g5, d1, d1', d2, d3, d4, d5, ap0 hlt2, ap1 hlt2, ap2 hlt2, ap3 hlt2, ap4 hlt2, ap5 hlt2, ap6 hlt2, ap7 hlt2, ap8 hlt2, ap9 hlt2, ap10 hlt2, ap11 hlt2, ap12 hlt2, ap13 hlt2, ap14 hlt2, ap15 hlt2, ap16 hlt2, ap17 hlt2, ap18 hlt2, ap19 hlt2, ap20 hlt2, ap21 hlt2, ap22 hlt2, ap23 hlt2, ap24 hlt2, ap25 hlt2, ap26 hlt2, ap27 hlt2, ap28 hlt2, ap29 hlt2, ap30 hlt2, ap31 hlt2, ap32 hlt2, ap33 hlt2, ap34 hlt2, ap35 hlt2, ap36 hlt2, ap37 hlt2, ap38 hlt2, ap39 hlt2, ap40 hlt2, ap41 hlt2, ap42 hlt2, ap43 hlt2, ap0 hz1, ap1 hz1, ap2 hz1, ap3 hz1, ap4 hz1, ap5 hz1, ap6 hz1, ap7 hz1, ap8 hz1, ap9 hz1, ap10 hz1, ap11 hz1, ap12 hz1, ap13 hz1, ap14 hz1, ap15 hz1, ap16 hz1, ap17 hz1, ap18 hz1, ap19 hz1, ap20 hz1, ap21 hz1, ap22 hz1, ap23 hz1, ap24 hz1, ap25 hz1, ap26 hz1, ap27 hz1, ap28 hz1, ap29 hz1, ap30 hz1, ap31 hz1, ap32 hz1, ap33 hz1, ap34 hz1, ap35 hz1, ap36 hz1, ap37 hz1, ap38 hz1, ap39 hz1, ap40 hz1, ap41 hz1, ap42 hz1, ap43 hz1, hz12, hzh]
      refine call_CS (CS_inline (typesOk _) Tryd.func33 (fun _ _ => by kernel_rfl) rfl (by kernel_rfl) (Nat.le_of_ble_eq_true rfl) ?_)
      simp -dsimp -implicitDefEqProofs [-getElem?_pos, -List.map_append, -List.map_set, List.getElem?_cons_zero, List.getElem?_cons_succ, hi2, f0, v1, v2, g1, g2, g2', w2, g5, d1, d1', d2, d3, d4, d5, ap0 hlt2, ap1 hlt2, ap2 hlt2, ap3 hlt2, ap4 hlt2, ap5 hlt2, ap6 hlt2, ap7 hlt2, ap8 hlt2, ap9 hlt2, ap10 hlt2, ap11 hlt2, ap12 hlt2, ap13 hlt2, ap14 hlt2, ap15 hlt2, ap16 hlt2, ap17 hlt2, ap18 hlt2, ap19 hlt2, ap20 hlt2, ap21 hlt2, ap22 hlt2, ap23 hlt2, ap24 hlt2, ap25 hlt2, ap26 hlt2, ap27 hlt2, ap28 hlt2, ap29 hlt2, ap30 hlt2, ap31 hlt2, ap32 hlt2, ap33 hlt2, ap34 hlt2, ap35 hlt2, ap36 hlt2, ap37 hlt2, ap38 hlt2, ap39 hlt2, ap40 hlt2, ap41 hlt2, ap42 hlt2, ap43 hlt2, ap0 hz1, ap1 hz1, ap2 hz1, ap3 hz1, ap4 hz1, ap5 hz1, ap6 hz1, ap7 hz1, ap8 hz1, ap9 hz1, ap10 hz1, ap11 hz1, ap12 hz1, ap13 hz1, ap14 hz1, ap15 hz1, ap16 hz1, ap17 hz1, ap18 hz1, ap19 hz1, ap20 hz1, ap21 hz1, ap22 hz1, ap23 hz1, ap24 hz1, ap25 hz1, ap26 hz1, ap27 hz1, ap28 hz1, ap29 hz1, ap30 hz1, ap31 hz1, ap32 hz1, ap33 hz1, ap34 hz1, ap35 hz1, ap36 hz1, ap37 hz1, ap38 hz1, ap39 hz1, ap40 hz1, ap41 hz1, ap42 hz1, ap43 hz1, hz12, hzh]
      refine loop_unroll 3 ?_
      simp -dsimp -implicitDefEqProofs [-getElem?_pos, -List.map_append, -List.map_set, List.getElem?_cons_zero, List.getElem?_cons_succ, hi2, f0, v1, v2, g1, g2, g2', w2, g5, d1, d1', d2, d3, d4, d5, ap0 hlt2, ap1 hlt2, ap2 hlt2, ap3 hlt2, ap4 hlt2, ap5 hlt2, ap6 hlt2, ap7 hlt2, ap8 hlt2, ap9 hlt2, ap10 hlt2, ap11 hlt2, ap12 hlt2, ap13 hlt2, ap14 hlt2, ap15 hlt2, ap16 hlt2, ap17 hlt2, ap18 hlt2, ap19 hlt2, ap20 hlt2, ap21 hlt2, ap22 hlt2, ap23 hlt2, ap24 hlt2, ap25 hlt2, ap26 hlt2, ap27 hlt2, ap28 hlt2, ap29 hlt2, ap30 hlt2, ap31 hlt2, ap32 hlt2, ap33 hlt2, ap34 hlt2, ap35 hlt2, ap36 hlt2, ap37 hlt2, ap38 hlt2, ap39 hlt2, ap40 hlt2, ap41 hlt2, ap42 hlt2, ap43 hlt2, ap0 hz1, ap1 hz1, ap2 hz1, ap3 hz1, ap4 hz1, ap5 hz1, ap6 hz1, ap7 hz1, ap8 hz1, ap9 hz1, ap10 hz1, ap11 hz1, ap12 hz1, ap13 hz1, ap14 hz1, ap15 hz1, ap16 hz1, ap17 hz1, ap18 hz1, ap19 hz1, ap20 hz1, ap21 hz1, ap22 hz1, ap23 hz1, ap24 hz1, ap25 hz1, ap26 hz1, ap27 hz1, ap28 hz1, ap29 hz1, ap30 hz1, ap31 hz1, ap32 hz1, ap33 hz1, ap34 hz1, ap35 hz1, ap36 hz1, ap37 hz1, ap38 hz1, ap39 hz1, ap40 hz1, ap41 hz1, ap42 hz1, ap43 hz1, hz12, hzh]
      refine call_CC (hg.out) ?_
      simp -dsimp -implicitDefEqProofs [-getElem?_pos, -List.map_append, -List.map_set, List.getElem?_cons_zero, List.getElem?_cons_succ, hi2, f0, v1, v2, g1, g2, g2', w2, g5, d1, d1', d2, d3, d4, d5, hZl, ap0 hlt2, ap1 hlt2, ap2 hlt2, ap3 hlt2, ap4 hlt2, ap5 hlt2, ap6 hlt2, ap7 hlt2, ap8 hlt2, ap9 hlt2, ap10 hlt2, ap11 hlt2, ap12 hlt2, ap13 hlt2, ap14 hlt2, ap15 hlt2, ap16 hlt2, ap17 hlt2, ap18 hlt2, ap19 hlt2, ap20 hlt2, ap21 hlt2, ap22 hlt2, ap23 hlt2, ap24 hlt2, ap25 hlt2, ap26 hlt2, ap27 hlt2, ap28 hlt2, ap29 hlt2, ap30 hlt2, ap31 hlt2, ap32 hlt2, ap33 hlt2, ap34 hlt2, ap35 hlt2, ap36 hlt2, ap37 hlt2, ap38 hlt2, ap39 hlt2, ap40 hlt2, ap41 hlt2, ap42 hlt2, ap43 hlt2, ap0 hz1, ap1 hz1, ap2 hz1, ap3 hz1, ap4 hz1, ap5 hz1, ap6 hz1, ap7 hz1, ap8 hz1, ap9 hz1, ap10 hz1, ap11 hz1, ap12 hz1, ap13 hz1, ap14 hz1, ap15 hz1, ap16 hz1, ap17 hz1, ap18 hz1, ap19 hz1, ap20 hz1, ap21 hz1, ap22 hz1, ap23 hz1, ap24 hz1, ap25 hz1, ap26 hz1, ap27 hz1, ap28 hz1, ap29 hz1, ap30 hz1, ap31 hz1, ap32 hz1, ap33 hz1, ap34 hz1, ap35 hz1, ap36 hz1, ap37 hz1, ap38 hz1, ap39 hz1, ap40 hz1, ap41 hz1, ap42 hz1, ap43 hz1, hz12, hzh]
      refine loop_unroll 3 ?_
      simp -dsimp -implicitDefEqProofs [-getElem?_pos, -List.map_append, -List.map_set, List.getElem?_cons_zero, List.getElem?_cons_succ, hi2, f0, v1, v2, g1, g2, g2', w2, g5, d1, d1', d2, d3, d4, d5, hZl, ap0 hlt2, ap1 hlt2, ap2 hlt2, ap3 hlt2, ap4 hlt2, ap5 hlt2, ap6 hlt2, ap7 hlt2, ap8 hlt2, ap9 hlt2, ap10 hlt2, ap11 hlt2, ap12 hlt2, ap13 hlt2, ap14 hlt2, ap15 hlt2, ap16 hlt2, ap17 hlt2, ap18 hlt2, ap19 hlt2, ap20 hlt2, ap21 hlt2, ap22 hlt2, ap23 hlt2, ap24 hlt2, ap25 hlt2, ap26 hlt2, ap27 hlt2, ap28 hlt2, ap29 hlt2, ap30 hlt2, ap31 hlt2, ap32 hlt2, ap33 hlt2, ap34 hlt2, ap35 hlt2, ap36 hlt2, ap37 hlt2, ap38 hlt2, ap39 hlt2, ap40 hlt2, ap41 hlt2, ap42 hlt2, ap43 hlt2, ap0 hz1, ap1 hz1, ap2 hz1, ap3 hz1, ap4 hz1, ap5 hz1, ap6 hz1, ap7 hz1, ap8 hz1, ap9 hz1, ap10 hz1, ap11 hz1, ap12 hz1, ap13 hz1, ap14 hz1, ap15 hz1, ap16 hz1, ap17 hz1, ap18 hz1, ap19 hz1, ap20 hz1, ap21 hz1, ap22 hz1, ap23 hz1, ap24 hz1, ap25 hz1, ap26 hz1, ap27 hz1, ap28 hz1, ap29 hz1, ap30 hz1, ap31 hz1, ap32 hz1, ap33 hz1, ap34 hz1, ap35 hz1, ap36 hz1, ap37 hz1, ap38 hz1, ap39 hz1, ap40 hz1, ap41 hz1, ap42 hz1, ap43 hz1, hz12, hzh]
      have g6 : decide (L.length ≤ ys.length) = true := by have := hLL.out; simp at this ⊢; omega
      simp -dsimp -implicitDefEqProofs [-getElem?_pos, -List.map_append, -List.map_set, List.getElem?_cons_zero, List.getElem?_cons_succ, g6]
      refine call_CC (ce.out) ?_ (view3 rfl (view_recs (upd_same _ _ _) (by have := hL4; rw [← hZ'.out] at this; simpa using this) (by have := hLL.out; simp at this ⊢; omega)) rfl) (.inl ⟨rfl, rfl⟩)
      simp -dsimp -implicitDefEqProofs [-getElem?_pos, -List.map_append, -List.map_set, List.getElem?_cons_zero, List.getElem?_cons_succ, ap0 hlt2, ap1 hlt2, ap2 hlt2, ap3 hlt2, ap4 hlt2, ap5 hlt2, ap6 hlt2, ap7 hlt2, ap8 hlt2, ap9 hlt2, ap10 hlt2, ap11 hlt2, ap12 hlt2, ap13 hlt2, ap14 hlt2, ap15 hlt2, ap16 hlt2, ap17 hlt2, ap18 hlt2, ap19 hlt2, ap20 hlt2, ap21 hlt2, ap22 hlt2, ap23 hlt2, ap24 hlt2, ap25 hlt2, ap26 hlt2, ap27 hlt2, ap28 hlt2, ap29 hlt2, ap30 hlt2, ap31 hlt2, ap32 hlt2, ap33 hlt2, ap34 hlt2, ap35 hlt2, ap36 hlt2, ap37 hlt2, ap38 hlt2, ap39 hlt2, ap40 hlt2, ap41 hlt2, ap42 hlt2, ap43 hlt2]
      refine call_CC (cq.out) ?_
      simp -dsimp -implicitDefEqProofs [-getElem?_pos, -List.map_append, -List.map_set, List.getElem?_cons_zero, List.getElem?_cons_succ, ap0 hlt2, ap1 hlt2, ap2 hlt2, ap3 hlt2, ap4 hlt2, ap5 hlt2, ap6 hlt2, ap7 hlt2, ap8 hlt2, ap9 hlt2, ap10 hlt2, ap11 hlt2, ap12 hlt2, ap13 hlt2, ap14 hlt2, ap15 hlt2, ap16 hlt2, ap17 hlt2, ap18 hlt2, ap19 hlt2, ap20 hlt2, ap21 hlt2, ap22 hlt2, ap23 hlt2, ap24 hlt2, ap25 hlt2, ap26 hlt2, ap27 hlt2, ap28 hlt2, ap29 hlt2, ap30 hlt2, ap31 hlt2, ap32 hlt2, ap33 hlt2, ap34 hlt2, ap35 hlt2, ap36 hlt2, ap37 hlt2, ap38 hlt2, ap39 hlt2, ap40 hlt2, ap41 hlt2, ap42 hlt2, ap43 hlt2]
      refine call_CC (cd.out) ?_
      simp -dsimp -implicitDefEqProofs [-getElem?_pos, -List.map_append, -List.map_set, List.getElem?_cons_zero, List.getElem?_cons_succ, ap0 hlt2, ap1 hlt2, ap2 hlt2, ap3 hlt2, ap4 hlt2, ap5 hlt2, ap6 hlt2, ap7 hlt2, ap8 hlt2, ap9 hlt2, ap10 hlt2, ap11 hlt2, ap12 hlt2, ap13 hlt2, ap14 hlt2, ap15 hlt2, ap16 hlt2, ap17 hlt2, ap18 hlt2, ap19 hlt2, ap20 hlt2, ap21 hlt2, ap22 hlt2, ap23 hlt2, ap24 hlt2, ap25 hlt2, ap26 hlt2, ap27 hlt2, ap28 hlt2, ap29 hlt2, ap30 hlt2, ap31 hlt2, ap32 hlt2, ap33 hlt2, ap34 hlt2, ap35 hlt2, ap36 hlt2, ap37 hlt2, ap38 hlt2, ap39 hlt2, ap40 hlt2, ap41 hlt2, ap42 hlt2, ap43 hlt2]
      refine call_CC (ce.out) ?_
      simp -dsimp -implicitDefEqProofs [-getElem?_pos, -List.map_append, -List.map_set, List.getElem?_cons_zero, List.getElem?_cons_succ, ap0 hlt2, ap1 hlt2, ap2 hlt2, ap3 hlt2, ap4 hlt2, ap5 hlt2, ap6 hlt2, ap7 hlt2, ap8 hlt2, ap9 hlt2, ap10 hlt2, ap11 hlt2, ap12 hlt2, ap13 hlt2, ap14 hlt2, ap15 hlt2, ap16 hlt2, ap17 hlt2, ap18 hlt2, ap19 hlt2, ap20 hlt2, ap21 hlt2, ap22 hlt2, ap23 hlt2, ap24 hlt2, ap25 hlt2, ap26 hlt2, ap27 hlt2, ap28 hlt2, ap29 hlt2, ap30 hlt2, ap31 hlt2, ap32 hlt2, ap33 hlt2, ap34 hlt2, ap35 hlt2, ap36 hlt2, ap37 hlt2, ap38 hlt2, ap39 hlt2, ap40 hlt2, ap41 hlt2, ap42 hlt2, ap43 hlt2]
      exact ends_bool rfl
  · simp only at hi1 hyh
    simp -dsimp -implicitDefEqProofs [-getElem?_pos, -List.map_append, -List.map_set, List.getElem?_cons_zero, List.getElem?_cons_succ, hi1, ap0 hlt1, ap1 hlt1, ap2 hlt1, ap3 hlt1, ap4 hlt1, ap5 hlt1, ap6 hlt1, ap7 hlt1, ap8 hlt1, ap9 hlt1, ap10 hlt1, ap11 hlt1, ap12 hlt1, ap13 hlt1, ap14 hlt1, ap15 hlt1, ap16 hlt1, ap17 hlt1, hyh]
    refine call_CC (cs.out) ?_
    simp -dsimp -implicitDefEqProofs [-getElem?_pos, -List.map_append, -List.map_set, List.getElem?_cons_zero, List.getElem?_cons_succ, hi1, ap0 hlt1, ap1 hlt1, ap2 hlt1, ap3 hlt1, ap4 hlt1, ap5 hlt1, ap6 hlt1, ap7 hlt1, ap8 hlt1, ap9 hlt1, ap10 hlt1, ap11 hlt1, ap12 hlt1, ap13 hlt1, ap14 hlt1, ap15 hlt1, ap16 hlt1, ap17 hlt1, hyh]
    refine call_keeps (keeps_put b 12 _ _ (diskC true ⟨A, []⟩) ⟨A, []⟩ (.inr rfl) (by simp -dsimp) (by omega)) ?_
    rw [hp2.out]
    rintro h2 n2 r2 ⟨hn2', hf2, hst⟩
    have hlt2 : 12 < n2 := by omega
    rcases hst with ⟨ho2, hD2, rfl, hi2⟩ | ⟨hi2, z, rfl, hz0, hz1, hzh⟩
    · simp only at ho2 hD2
      subst ho2
      obtain rfl := hn2 rfl
      rw [upd_same] at hi2
      clear hD2 hn2
      replace ca := hid (show C Tryd.prog 30 [Int' k, Int' 1] (Int' j) [] from ca.out)
      have hyh2 := (hf2 y (by omega) (by omega)).trans ((upd_ne _ _ (by omega)).trans hyh)
      simp -dsimp -implicitDefEqProofs [-getElem?_pos, -List.map_append, -List.map_set, List.getElem?_cons_zero, List.getElem?_cons_succ, hi2, ap0 hlt2, ap1 hlt2, ap2 hlt2, ap3 hlt2, ap4 hlt2, ap5 hlt2, ap6 hlt2, ap7 hlt2, ap8 hlt2, ap9 hlt2, ap10 hlt2, ap11 hlt2, ap12 hlt2, ap13 hlt2, ap14 hlt2, ap15 hlt2, ap16 hlt2, ap17 hlt2, hyh2]
      refine call_CC (ca.out) ?_
      simp -dsimp -implicitDefEqProofs [-getElem?_pos, -List.map_append, -List.map_set, List.getElem?_cons_zero, List.getElem?_cons_succ, hi2, ap0 hlt2, ap1 hlt2, ap2 hlt2, ap3 hlt2, ap4 hlt2, ap5 hlt2, ap6 hlt2, ap7 hlt2, ap8 hlt2, ap9 hlt2, ap10 hlt2, ap11 hlt2, ap12 hlt2, ap13 hlt2, ap14 hlt2, ap15 hlt2, ap16 hlt2, ap17 hlt2, hyh2]
      refine call_CC (cc.out) ?_
      simp -dsimp -implicitDefEqProofs [-getElem?_pos, -List.map_append, -List.map_set, List.getElem?_cons_zero, List.getElem?_cons_succ, hi2, ap0 hlt2, ap1 hlt2, ap2 hlt2, ap3 hlt2, ap4 hlt2, ap5 hlt2, ap6 hlt2, ap7 hlt2, ap8 hlt2, ap9 hlt2, ap10 hlt2, ap11 hlt2, ap12 hlt2, ap13 hlt2, ap14 hlt2, ap15 hlt2, ap16 hlt2, ap17 hlt2, hyh2]
      refine call_CC (cr.out) ?_
      have g5 : decide (xs.length < L.length) = false := by have := hLL.out; simp at this ⊢; omega
      have hy2 : y < n2 := by omega
      have hy12 : ¬ y = 12 := by omega
      have hg := grow_recs (xs.length) (by have := hx2'.out; have := hy2'.out; omega)
      replace hg := hid hg
      simp -dsimp -implicitDefEqProofs [-getElem?_pos, -List.map_append, -List.map_set, List.getElem?_cons_zero, List.getElem?_cons_succ, hi2, f0, v1, v2, g1, g2, g2', w2, g5, d1, d1', d2, d3, d4, d5, ap0 hlt2, ap1 hlt2, ap2 hlt2, ap3 hlt2, ap4 hlt2, ap5 hlt2, ap6 hlt2, ap7 hlt2, ap8 hlt2, ap9 hlt2, ap10 hlt2, ap11 hlt2, ap12 hlt2, ap13 hlt2, ap14 hlt2, ap15 hlt2, ap16 hlt2, ap17 hlt2, ap18 hlt2, ap19 hlt2, ap20 hlt2, ap21 hlt2, ap22 hlt2, ap23 hlt2, ap24 hlt2, ap25 hlt2, ap26 hlt2, ap27 hlt2, ap28 hlt2, ap29 hlt2, ap30 hlt2, ap31 hlt2, ap32 hlt2, ap33 hlt2, ap34 hlt2, ap35 hlt2, ap36 hlt2, ap37 hlt2, ap38 hlt2, ap39 hlt2, ap40 hlt2, ap41 hlt2, ap42 hlt2, ap43 hlt2, ap0 hy2, ap1 hy2, ap2 hy2, ap3 hy2, ap4 hy2, ap5 hy2, ap6 hy2, ap7 hy2, ap8 hy2, ap9 hy2, ap10 hy2, ap11 hy2, ap12 hy2, ap13 hy2, ap14 hy2, ap15 hy2, ap16 hy2, ap17 hy2, ap18 hy2, ap19 hy2, ap20 hy2, ap21 hy2, ap22 hy2, ap23 hy2, ap24 hy2, ap25 hy2, ap26 hy2, ap27 hy2, ap28 hy2, ap29 hy2, ap30 hy2, ap31 hy2, ap32 hy2, ap33 hy2, ap34 hy2, ap35 hy2, ap36 hy2, ap37 hy2, ap38 hy2, ap39 hy2, ap40 hy2, ap41 hy2, ap42 hy2, ap43 hy2, hy12, hyh2]
      refine call_CS (CS_inline (typesOk _) Tryd.func33 (fun _ _ => by kernel_rfl) rfl (by kernel_rfl) (Nat.le_of_ble_eq_true rfl) ?_)
      simp -dsimp -implicitDefEqProofs [-getElem?_pos, -List.map_append, -List.map_set, List.getElem?_cons_zero, List.getElem?_cons_succ, hi2, f0, v1, v2, g1, g2, g2', w2, g5, d1, d1', d2, d3, d4, d5, ap0 hlt2, ap1 hlt2, ap2 hlt2, ap3 hlt2, ap4 hlt2, ap5 hlt2, ap6 hlt2, ap7 hlt2, ap8 hlt2, ap9 hlt2, ap10 hlt2, ap11 hlt2, ap12 hlt2, ap13 hlt2, ap14 hlt2, ap15 hlt2, ap16 hlt2, ap17 hlt2, ap18 hlt2, ap19 hlt2, ap20 hlt2, ap21 hlt2, ap22 hlt2, ap23 hlt2, ap24 hlt2, ap25 hlt2, ap26 hlt2, ap27 hlt2, ap28 hlt2, ap29 hlt2, ap30 hlt2, ap31 hlt2, ap32 hlt2, ap33 hlt2, ap34 hlt2, ap35 hlt2, ap36 hlt2, ap37 hlt2, ap38 hlt2, ap39 hlt2, ap40 hlt2, ap41 hlt2, ap42 hlt2, ap43 hlt2, ap0 hy2, ap1 hy2, ap2 hy2, ap3 hy2, ap4 hy2, ap5 hy2, ap6 hy2, ap7 hy2, ap8 hy2, ap9 hy2, ap10 hy2, ap11 hy2, ap12 hy2, ap13 hy2, ap14 hy2, ap15 hy2, ap16 hy2, ap17 hy2, ap18 hy2, ap19 hy2, ap20 hy2, ap21 hy2, ap22 hy2, ap23 hy2, ap24 hy2, ap25 hy2, ap26 hy2, ap27 hy2, ap28 hy2, ap29 hy2, ap30 hy2, ap31 hy2, ap32 hy2, ap33 hy2, ap34 hy2, ap35 hy2, ap36 hy2, ap37 hy2, ap38 hy2, ap39 hy2, ap40 hy2, ap41 hy2, ap42 hy2, ap43 hy2, hy12, hyh2]
      refine loop_unroll 3 ?_
      simp -dsimp -implicitDefEqProofs [-getElem?_pos, -List.map_append, -List.map_set, List.getElem?_cons_zero, List.getElem?_cons_succ, hi2, f0, v1, v2, g1, g2, g2', w2, g5, d1, d1', d2, d3, d4, d5, ap0 hlt2, ap1 hlt2, ap2 hlt2, ap3 hlt2, ap4 hlt2, ap5 hlt2, ap6 hlt2, ap7 hlt2, ap8 hlt2, ap9 hlt2, ap10 hlt2, ap11 hlt2, ap12 hlt2, ap13 hlt2, ap14 hlt2, ap15 hlt2, ap16 hlt2, ap17 hlt2, ap18 hlt2, ap19 hlt2, ap20 hlt2, ap21 hlt2, ap22 hlt2, ap23 hlt2, ap24 hlt2, ap25 hlt2, ap26 hlt2, ap27 hlt2, ap28 hlt2, ap29 hlt2, ap30 hlt2, ap31 hlt2, ap32 hlt2, ap33 hlt2, ap34 hlt2, ap35 hlt2, ap36 hlt2, ap37 hlt2, ap38 hlt2, ap39 hlt2, ap40 hlt2, ap41 hlt2, ap42 hlt2, ap43 hlt2, ap0 hy2, ap1 hy2, ap2 hy2, ap3 hy2, ap4 hy2, ap5 hy2, ap6 hy2, ap7 hy2, ap8 hy2, ap9 hy2, ap10 hy2, ap11 hy2, ap12 hy2, ap13 hy2, ap14 hy2, ap15 hy2, ap16 hy2, ap17 hy2, ap18 hy2, ap19 hy2, ap20 hy2, ap21 hy2, ap22 hy2, ap23 hy2, ap24 hy2, ap25 hy2, ap26 hy2, ap27 hy2, ap28 hy2, ap29 hy2, ap30 hy2, ap31 hy2, ap32 hy2, ap33 hy2, ap34 hy2, ap35 hy2, ap36 hy2, ap37 hy2, ap38 hy2, ap39 hy2, ap40 hy2, ap41 hy2, ap42 hy2, ap43 hy2, hy12, hyh2]
      refine call_CC (hg.out) ?_
      simp -dsimp -implicitDefEqProofs [-getElem?_pos, -List.map_append, -List.map_set, List.getElem?_cons_zero, List.getElem?_cons_succ, hi2, f0, v1, v2, g1, g2, g2', w2, g5, d1, d1', d2, d3, d4, d5, hZl, ap0 hlt2, ap1 hlt2, ap2 hlt2, ap3 hlt2, ap4 hlt2, ap5 hlt2, ap6 hlt2, ap7 hlt2, ap8 hlt2, ap9 hlt2, ap10 hlt2, ap11 hlt2, ap12 hlt2, ap13 hlt2, ap14 hlt2, ap15 hlt2, ap16 hlt2, ap17 hlt2, ap18 hlt2, ap19 hlt2, ap20 hlt2, ap21 hlt2, ap22 hlt2, ap23 hlt2, ap24 hlt2, ap25 hlt2, ap26 hlt2, ap27 hlt2, ap28 hlt2, ap29 hlt2, ap30 hlt2, ap31 hlt2, ap32 hlt2, ap33 hlt2, ap34 hlt2, ap35 hlt2, ap36 hlt2, ap37 hlt2, ap38 hlt2, ap39 hlt2, ap40 hlt2, ap41 hlt2, ap42 hlt2, ap43 hlt2, ap0 hy2, ap1 hy2, ap2 hy2, ap3 hy2, ap4 hy2, ap5 hy2, ap6 hy2, ap7 hy2, ap8 hy2, ap9 hy2, ap10 hy2, ap11 hy2, ap12 hy2, ap13 hy2, ap14 hy2, ap15 hy2, ap16 hy2, ap17 hy2, ap18 hy2, ap19 hy2, ap20 hy2, ap21 hy2, ap22 hy2, ap23 hy2, ap24 hy2, ap25 hy2, ap26 hy2, ap27 hy2, ap28 hy2, ap29 hy2, ap30 hy2, ap31 hy2, ap32 hy2, ap33 hy2, ap34 hy2, ap35 hy2, ap36 hy2, ap37 hy2, ap38 hy2, ap39 hy2, ap40 hy2, ap41 hy2, ap42 hy2, ap43 hy2, hy12, hyh2]
      refine loop_unroll 3 ?_
      simp -dsimp -implicitDefEqProofs [-getElem?_pos, -List.map_append, -List.map_set, List.getElem?_cons_zero, List.getElem?_cons_succ, hi2, f0, v1, v2, g1, g2, g2', w2, g5, d1, d1', d2, d3, d4, d5, hZl, ap0 hlt2, ap1 hlt2, ap2 hlt2, ap3 hlt2, ap4 hlt2, ap5 hlt2, ap6 hlt2, ap7 hlt2, ap8 hlt2, ap9 hlt2, ap10 hlt2, ap11 hlt2, ap12 hlt2, ap13 hlt2, ap14 hlt2, ap15 hlt2, ap16 hlt2, ap17 hlt2, ap18 hlt2, ap19 hlt2, ap20 hlt2, ap21 hlt2, ap22 hlt2, ap23 hlt2, ap24 hlt2, ap25 hlt2, ap26 hlt2, ap27 hlt2, ap28 hlt2, ap29 hlt2, ap30 hlt2, ap31 hlt2, ap32 hlt2, ap33 hlt2, ap34 hlt2, ap35 hlt2, ap36 hlt2, ap37 hlt2, ap38 hlt2, ap39 hlt2, ap40 hlt2, ap41 hlt2, ap42 hlt2, ap43 hlt2, ap0 hy2, ap1 hy2, ap2 hy2, ap3 hy2, ap4 hy2, ap5 hy2, ap6 hy2, ap7 hy2, ap8 hy2, ap9 hy2, ap10 hy2, ap11 hy2, ap12 hy2, ap13 hy2, ap14 hy2, ap15 hy2, ap16 hy2, ap17 hy2, ap18 hy2, ap19 hy2, ap20 hy2, ap21 hy2, ap22 hy2, ap23 hy2, ap24 hy2, ap25 hy2, ap26 hy2, ap27 hy2, ap28 hy2, ap29 hy2, ap30 hy2, ap31 hy2, ap32 hy2, ap33 hy2, ap34 hy2, ap35 hy2, ap36 hy2, ap37 hy2, ap38 hy2, ap39 hy2, ap40 hy2, ap41 hy2, ap42 hy2, ap43 hy2, hy12, hyh2]
      have g6 : decide (L.length ≤ xs.length) = true := by have := hLL.out; simp at this ⊢; omega
      simp -dsimp -implicitDefEqProofs [-getElem?_pos, -List.map_append, -List.map_set, List.getElem?_cons_zero, List.getElem?_cons_succ, g6]
      refine call_CC (ce.out) ?_ (view3 rfl (view_recs (upd_same _ _ _) (by have := hL4; rw [← hZ'.out] at this; simpa using this) (by have := hLL.out; simp at this ⊢; omega)) rfl) (.inl ⟨rfl, rfl⟩)
      simp -dsimp -implicitDefEqProofs [-getElem?_pos, -List.map_append, -List.map_set, List.getElem?_cons_zero, List.getElem?_cons_succ, ap0 hlt2, ap1 hlt2, ap2 hlt2, ap3 hlt2, ap4 hlt2, ap5 hlt2, ap6 hlt2, ap7 hlt2, ap8 hlt2, ap9 hlt2, ap10 hlt2, ap11 hlt2, ap12 hlt2, ap13 hlt2, ap14 hlt2, ap15 hlt2, ap16 hlt2, ap17 hlt2, ap18 hlt2, ap19 hlt2, ap20 hlt2, ap21 hlt2, ap22 hlt2, ap23 hlt2, ap24 hlt2, ap25 hlt2, ap26 hlt2, ap27 hlt2, ap28 hlt2, ap29 hlt2, ap30 hlt2, ap31 hlt2, ap32 hlt2, ap33 hlt2, ap34 hlt2, ap35 hlt2, ap36 hlt2, ap37 hlt2, ap38 hlt2, ap39 hlt2, ap40 hlt2, ap41 hlt2, ap42 hlt2, ap43 hlt2]
      refine call_CC (cq.out) ?_
      simp -dsimp -implicitDefEqProofs [-getElem?_pos, -List.map_append, -List.map_set, List.getElem?_cons_zero, List.getElem?_cons_succ, ap0 hlt2, ap1 hlt2, ap2 hlt2, ap3 hlt2, ap4 hlt2, ap5 hlt2, ap6 hlt2, ap7 hlt2, ap8 hlt2, ap9 hlt2, ap10 hlt2, ap11 hlt2, ap12 hlt2, ap13 hlt2, ap14 hlt2, ap15 hlt2, ap16 hlt2, ap17 hlt2, ap18 hlt2, ap19 hlt2, ap20 hlt2, ap21 hlt2, ap22 hlt2, ap23 hlt2, ap24 hlt2, ap25 hlt2, ap26 hlt2, ap27 hlt2, ap28 hlt2, ap29 hlt2, ap30 hlt2, ap31 hlt2, ap32 hlt2, ap33 hlt2, ap34 hlt2, ap35 hlt2, ap36 hlt2, ap37 hlt2, ap38 hlt2, ap39 hlt2, ap40 hlt2, ap41 hlt2, ap42 hlt2, ap43 hlt2]
      refine call_CC (cd.out) ?_
      simp -dsimp -implicitDefEqProofs [-getElem?_pos, -List.map_append, -List.map_set, List.getElem?_cons_zero, List.getElem?_cons_succ, ap0 hlt2, ap1 hlt2, ap2 hlt2, ap3 hlt2, ap4 hlt2, ap5 hlt2, ap6 hlt2, ap7 hlt2, ap8 hlt2, ap9 hlt2, ap10 hlt2, ap11 hlt2, ap12 hlt2, ap13 hlt2, ap14 hlt2, ap15 hlt2, ap16 hlt2, ap17 hlt2, ap18 hlt2, ap19 hlt2, ap20 hlt2, ap21 hlt2, ap22 hlt2, ap23 hlt2, ap24 hlt2, ap25 hlt2, ap26 hlt2, ap27 hlt2, ap28 hlt2, ap29 hlt2, ap30 hlt2, ap31 hlt2, ap32 hlt2, ap33 hlt2, ap34 hlt2, ap35 hlt2, ap36 hlt2, ap37 hlt2, ap38 hlt2, ap39 hlt2, ap40 hlt2, ap41 hlt2, ap42 hlt2, ap43 hlt2]
      refine call_CC (ce.out) ?_
      simp -dsimp -implicitDefEqProofs [-getElem?_pos, -List.map_append, -List.map_set, List.getElem?_cons_zero, List.getElem?_cons_succ, ap0 hlt2, ap1 hlt2, ap2 hlt2, ap3 hlt2, ap4 hlt2, ap5 hlt2, ap6 hlt2, ap7 hlt2, ap8 hlt2, ap9 hlt2, ap10 hlt2, ap11 hlt2, ap12 hlt2, ap13 hlt2, ap14 hlt2, ap15 hlt2, ap16 hlt2, ap17 hlt2, ap18 hlt2, ap19 hlt2, ap20 hlt2, ap21 hlt2, ap22 hlt2, ap23 hlt2, ap24 hlt2, ap25 hlt2, ap26 hlt2, ap27 hlt2, ap28 hlt2, ap29 hlt2, ap30 hlt2, ap31 hlt2, ap32 hlt2, ap33 hlt2, ap34 hlt2, ap35 hlt2, ap36 hlt2, ap37 hlt2, ap38 hlt2, ap39 hlt2, ap40 hlt2, ap41 hlt2, ap42 hlt2, ap43 hlt2]
      exact ends_bool rfl
    · simp only at hi2 hzh
      have hyh2 := (hf2 y (by omega) (by omega)).trans ((upd_ne _ _ (by omega)).trans hyh)
      simp -dsimp -implicitDefEqProofs [-getElem?_pos, -List.map_append, -List.map_set, List.getElem?_cons_zero, List.getElem?_cons_succ, hi2, w1, ap0 hlt2, ap1 hlt2, ap2 hlt2, ap3 hlt2, ap4 hlt2, ap5 hlt2, ap6 hlt2, ap7 hlt2, ap8 hlt2, ap9 hlt2, ap10 hlt2, ap11 hlt2, ap12 hlt2, ap13 hlt2, ap14 hlt2, ap15 hlt2, ap16 hlt2, ap17 hlt2, hyh2, hzh]
      refine call_CC (ca.out) ?_
      simp -dsimp -implicitDefEqProofs [-getElem?_pos, -List.map_append, -List.map_set, List.getElem?_cons_zero, List.getElem?_cons_succ, hi2, ap0 hlt2, ap1 hlt2, ap2 hlt2, ap3 hlt2, ap4 hlt2, ap5 hlt2, ap6 hlt2, ap7 hlt2, ap8 hlt2, ap9 hlt2, ap10 hlt2, ap11 hlt2, ap12 hlt2, ap13 hlt2, ap14 hlt2, ap15 hlt2, ap16 hlt2, ap17 hlt2, hyh2, hzh]
      refine call_CC (cc.out) ?_
      simp -dsimp -implicitDefEqProofs [-getElem?_pos, -List.map_append, -List.map_set, List.getElem?_cons_zero, List.getElem?_cons_succ, hi2, ap0 hlt2, ap1 hlt2, ap2 hlt2, ap3 hlt2, ap4 hlt2, ap5 hlt2, ap6 hlt2, ap7 hlt2, ap8 hlt2, ap9 hlt2, ap10 hlt2, ap11 hlt2, ap12 hlt2, ap13 hlt2, ap14 hlt2, ap15 hlt2, ap16 hlt2, ap17 hlt2, hyh2, hzh]
      refine call_CC (cr.out) ?_
      have g5 := g2'
      have hy2 : y < n2 := by omega
      have hy12 : ¬ y = 12 := by omega
      have hyz : ¬ y = z := by omega
      have hzy : ¬ z = y := by omega
      have hz12 : ¬ z = 12 := by omega
      have hg := grow_recs (xs.length + ys.length) (by have := hx2'.out; have := hy2'.out; omega)
      simp only [Int.natCast_add] at hg
      replace hg := hid hg
      simp -dsimp -implicitDefEqProofs [-getElem?_pos, -List.map_append, -List.map_set, List.getElem?_cons_zero, List.getElem?_cons_succ, hi2, f0, v1, v2, g1, g2, g2', w2, g5, d1, d1', d2, d3, d4, d5, ap0 hlt2, ap1 hlt2, ap2 hlt2, ap3 hlt2, ap4 hlt2, ap5 hlt2, ap6 hlt2, ap7 hlt2, ap8 hlt2, ap9 hlt2, ap10 hlt2, ap11 hlt2, ap12 hlt2, ap13 hlt2, ap14 hlt2, ap15 hlt2, ap16 hlt2, ap17 hlt2, ap18 hlt2, ap19 hlt2, ap20 hlt2, ap21 hlt2, ap22 hlt2, ap23 hlt2, ap24 hlt2, ap25 hlt2, ap26 hlt2, ap27 hlt2, ap28 hlt2, ap29 hlt2, ap30 hlt2, ap31 hlt2, ap32 hlt2, ap33 hlt2, ap34 hlt2, ap35 hlt2, ap36 hlt2, ap37 hlt2, ap38 hlt2, ap39 hlt2, ap40 hlt2, ap41 hlt2, ap42 hlt2, ap43 hlt2, ap0 hy2, ap1 hy2, ap2 hy2, ap3 hy2, ap4 hy2, ap5 hy2, ap6 hy2, ap7 hy2, ap8 hy2, ap9 hy2, ap10 hy2, ap11 hy2, ap12 hy2, ap13 hy2, ap14 hy2, ap15 hy2, ap16 hy2, ap17 hy2, ap18 hy2, ap19 hy2, ap20 hy2, ap21 hy2, ap22 hy2, ap23 hy2, ap24 hy2, ap25 hy2, ap26 hy2, ap27 hy2, ap28 hy2, ap29 hy2, ap30 hy2, ap31 hy2, ap32 hy2, ap33 hy2, ap34 hy2, ap35 hy2, ap36 hy2, ap37 hy2, ap38 hy2, ap39 hy2, ap40 hy2, ap41 hy2, ap42 hy2, ap43 hy2, ap0 hz1, ap1 hz1, ap2 hz1, ap3 hz1, ap4 hz1, ap5 hz1, ap6 hz1, ap7 hz1, ap8 hz1, ap9 hz1, ap10 hz1, ap11 hz1, ap12 hz1, ap13 hz1, ap14 hz1, ap15 hz1, ap16 hz1, ap17 hz1, ap18 hz1, ap19 hz1, ap20 hz1, ap21 hz1, ap22 hz1, ap23 hz1, ap24 hz1, ap25 hz1, ap26 hz1, ap27 hz1, ap28 hz1, ap29 hz1, ap30 hz1, ap31 hz1, ap32 hz1, ap33 hz1, ap34 hz1, ap35 hz1, ap36 hz1, ap37 hz1, ap38 hz1, ap39 hz1, ap40 hz1, ap41 hz1, ap42 hz1, ap43 hz1, hy12, hyh2, hz12, hzh, hyz, hzy]
      refine call_CS (CS_inline (typesOk _) Tryd.func33 (fun _ _ => by kernel_rfl) rfl (by kernel_rfl) (Nat.le_of_ble_eq_true rfl) ?_)
      simp -dsimp -implicitDefEqProofs [-getElem?_pos, -List.map_append, -List.map_set, List.getElem?_cons_zero, List.getElem?_cons_succ, hi2, f0, v1, v2, g1, g2, g2', w2, g5, d1, d1', d2, d3, d4, d5, ap0 hlt2, ap1 hlt2, ap2 hlt2, ap3 hlt2, ap4 hlt2, ap5 hlt2, ap6 hlt2, ap7 hlt2, ap8 hlt2, ap9 hlt2, ap10 hlt2, ap11 hlt2, ap12 hlt2, ap13 hlt2, ap14 hlt2, ap15 hlt2, ap16 hlt2, ap17 hlt2, ap18 hlt2, ap19 hlt2, ap20 hlt2, ap21 hlt2, ap22 hlt2, ap23 hlt2, ap24 hlt2, ap25 hlt2, ap26 hlt2, ap27 hlt2, ap28 hlt2, ap29 hlt2, ap30 hlt2, ap31 hlt2, ap32 hlt2, ap33 hlt2, ap34 hlt2, ap35 hlt2, ap36 hlt2, ap37 hlt2, ap38 hlt2, ap39 hlt2, ap40 hlt2, ap41 hlt2, ap42 hlt2, ap43 hlt2, ap0 hy2, ap1 hy2, ap2 hy2, ap3 hy2, ap4 hy2, ap5 hy2, ap6 hy2, ap7 hy2, ap8 hy2, ap9 hy2, ap10 hy2, ap11 hy2, ap12 hy2, ap13 hy2, ap14 hy2, ap15 hy2, ap16 hy2, ap17 hy2, ap18 hy2, ap19 hy2, ap20 hy2, ap21 hy2, ap22 hy2, ap23 hy2, ap24 hy2, ap25 hy2, ap26 hy2, ap27 hy2, ap28 hy2, ap29 hy2, ap30 hy2, ap31 hy2, ap32 hy2, ap33 hy2, ap34 hy2, ap35 hy2, ap36 hy2, ap37 hy2, ap38 hy2, ap39 hy2, ap40 hy2, ap41 hy2, ap42 hy2, ap43 hy2, ap0 hz1, ap1 hz1, ap2 hz1, ap3 hz1, ap4 hz1, ap5 hz1, ap6 hz1, ap7 hz1, ap8 hz1, ap9 hz1, ap10 hz1, ap11 hz1, ap12 hz1, ap13 hz1, ap14 hz1, ap15 hz1, ap16 hz1, ap17 hz1, ap18 hz1, ap19 hz1, ap20 hz1, ap21 hz1, ap22 hz1, ap23 hz1, ap24 hz1, ap25 hz1, ap26 hz1, ap27 hz1, ap28 hz1, ap29 hz1, ap30 hz1, ap31 hz1, ap32 hz1, ap33 hz1, ap34 hz1, ap35 hz1, ap36 hz1, ap37 hz1, ap38 hz1, ap39 hz1, ap40 hz1, ap41 hz1, ap42 hz1, ap43 hz1, hy12, hyh2, hz12, hzh, hyz, hzy]
      refine loop_unroll 3 ?_
      simp -dsimp -implicitDefEqProofs [-getElem?_pos, -List.map_append, -List.map_set, List.getElem?_cons_zero, List.getElem?_cons_succ, hi2, f0, v1, v2, g1, g2, g2', w2, g5, d1, d1', d2, d3, d4, d5, ap0 hlt2, ap1 hlt2, ap2 hlt2, ap3 hlt2, ap4 hlt2, ap5 hlt2, ap6 hlt2, ap7 hlt2, ap8 hlt2, ap9 hlt2, ap10 hlt2, ap11 hlt2, ap12 hlt2, ap13 hlt2, ap14 hlt2, ap15 hlt2, ap16 hlt2, ap17 hlt2, ap18 hlt2, ap19 hlt2, ap20 hlt2, ap21 hlt2, ap22 hlt2, ap23 hlt2, ap24 hlt2, ap25 hlt2, ap26 hlt2, ap27 hlt2, ap28 hlt2, ap29 hlt2, ap30 hlt2, ap31 hlt2, ap32 hlt2, ap33 hlt2, ap34 hlt2, ap35 hlt2, ap36 hlt2, ap37 hlt2, ap38 hlt2, ap39 hlt2, ap40 hlt2, ap41 hlt2, ap42 hlt2, ap43 hlt2, ap0 hy2, ap1 hy2, ap2 hy2, ap3 hy2, ap4 hy2, ap5 hy2, ap6 hy2, ap7 hy2, ap8 hy2, ap9 hy2, ap10 hy2, ap11 hy2, ap12 hy2, ap13 hy2, ap14 hy2, ap15 hy2, ap16 hy2, ap17 hy2, ap18 hy2, ap19 hy2, ap20 hy2, ap21 hy2, ap22 hy2, ap23 hy2, ap24 hy2, ap25 hy2, ap26 hy2, ap27 hy2, ap28 hy2, ap29 hy2, ap30 hy2, ap31 hy2, ap32 hy2, ap33 hy2, ap34 hy2, ap35 hy2, ap36 hy2, ap37 hy2, ap38 hy2, ap39 hy2, ap40 hy2, ap41 hy2, ap42 hy2, ap43 hy2, ap0 hz1, ap1 hz1, ap2 hz1, ap3 hz1, ap4 hz1, ap5 hz1, ap6 hz1, ap7 hz1, ap8 hz1, ap9 hz1, ap10 hz1, ap11 hz1, ap12 hz1, ap13 hz1, ap14 hz1, ap15 hz1, ap16 hz1, ap17 hz1, ap18 hz1, ap19 hz1, ap20 hz1, ap21 hz1, ap22 hz1, ap23 hz1, ap24 hz1, ap25 hz1, ap26 hz1, ap27 hz1, ap28 hz1, ap29 hz1, ap30 hz1, ap31 hz1, ap32 hz1, ap33 hz1, ap34 hz1, ap35 hz1, ap36 hz1, ap37 hz1, ap38 hz1, ap39 hz1, ap40 hz1, ap41 hz1, ap42 hz1, ap43 hz1, hy12, hyh2, hz12, hzh, hyz, hzy]
      refine call_CC (hg.out) ?_
      simp -dsimp -implicitDefEqProofs [-getElem?_pos, -List.map_append, -List.map_set, List.getElem?_cons_zero, List.getElem?_cons_succ, hi2, f0, v1, v2, g1, g2, g2', w2, g5, d1, d1', d2, d3, d4, d5, hZl, ap0 hlt2, ap1 hlt2, ap2 hlt2, ap3 hlt2, ap4 hlt2, ap5 hlt2, ap6 hlt2, ap7 hlt2, ap8 hlt2, ap9 hlt2, ap10 hlt2, ap11 hlt2, ap12 hlt2, ap13 hlt2, ap14 hlt2, ap15 hlt2, ap16 hlt2, ap17 hlt2, ap18 hlt2, ap19 hlt2, ap20 hlt2, ap21 hlt2, ap22 hlt2, ap23 hlt2, ap24 hlt2, ap25 hlt2, ap26 hlt2, ap27 hlt2, ap28 hlt2, ap29 hlt2, ap30 hlt2, ap31 hlt2, ap32 hlt2, ap33 hlt2, ap34 hlt2, ap35 hlt2, ap36 hlt2, ap37 hlt2, ap38 hlt2, ap39 hlt2, ap40 hlt2, ap41 hlt2, ap42 hlt2, ap43 hlt2, ap0 hy2, ap1 hy2, ap2 hy2, ap3 hy2, ap4 hy2, ap5 hy2, ap6 hy2, ap7 hy2, ap8 hy2, ap9 hy2, ap10 hy2, ap11 hy2, ap12 hy2, ap13 hy2, ap14 hy2, ap15 hy2, ap16 hy2, ap17 hy2, ap18 hy2, ap19 hy2, ap20 hy2, ap21 hy2, ap22 hy2, ap23 hy2, ap24 hy2, ap25 hy2, ap26 hy2, ap27 hy2, ap28 hy2, ap29 hy2, ap30 hy2, ap31 hy2, ap32 hy2, ap33 hy2, ap34 hy2, ap35 hy2, ap36 hy2, ap37 hy2, ap38 hy2, ap39 hy2, ap40 hy2, ap41 hy2, ap42 hy2, ap43 hy2, ap0 hz1, ap1 hz1, ap2 hz1, ap3 hz1, ap4 hz1, ap5 hz1, ap6 hz1, ap7 hz1, ap8 hz1, ap9 hz1, ap10 hz1, ap11 hz1, ap12 hz1, ap13 hz1, ap14 hz1, ap15 hz1, ap16 hz1, ap17 hz1, ap18 hz1, ap19 hz1, ap20 hz1, ap21 hz1, ap22 hz1, ap23 hz1, ap24 hz1, ap25 hz1, ap26 hz1, ap27 hz1, ap28 hz1, ap29 hz1, ap30 hz1, ap31 hz1, ap32 hz1, ap33 hz1, ap34 hz1, ap35 hz1, ap36 hz1, ap37 hz1, ap38 hz1, ap39 hz1, ap40 hz1, ap41 hz1, ap42 hz1, ap43 hz1, hy12, hyh2, hz12, hzh, hyz, hzy]
      refine loop_unroll 3 ?_
      simp -dsimp -implicitDefEqProofs [-getElem?_pos, -List.map_append, -List.map_set, List.getElem?_cons_zero, List.getElem?_cons_succ, hi2, f0, v1, v2, g1, g2, g2', w2, g5, d1, d1', d2, d3, d4, d5, hZl, ap0 hlt2, ap1 hlt2, ap2 hlt2, ap3 hlt2, ap4 hlt2, ap5 hlt2, ap6 hlt2, ap7 hlt2, ap8 hlt2, ap9 hlt2, ap10 hlt2, ap11 hlt2, ap12 hlt2, ap13 hlt2, ap14 hlt2, ap15 hlt2, ap16 hlt2, ap17 hlt2, ap18 hlt2, ap19 hlt2, ap20 hlt2, ap21 hlt2, ap22 hlt2, ap23 hlt2, ap24 hlt2, ap25 hlt2, ap26 hlt2, ap27 hlt2, ap28 hlt2, ap29 hlt2, ap30 hlt2, ap31 hlt2, ap32 hlt2, ap33 hlt2, ap34 hlt2, ap35 hlt2, ap36 hlt2, ap37 hlt2, ap38 hlt2, ap39 hlt2, ap40 hlt2, ap41 hlt2, ap42 hlt2, ap43 hlt2, ap0 hy2, ap1 hy2, ap2 hy2, ap3 hy2, ap4 hy2, ap5 hy2, ap6 hy2, ap7 hy2, ap8 hy2, ap9 hy2, ap10 hy2, ap11 hy2, ap12 hy2, ap13 hy2, ap14 hy2, ap15 hy2, ap16 hy2, ap17 hy2, ap18 hy2, ap19 hy2, ap20 hy2, ap21 hy2, ap22 hy2, ap23 hy2, ap24 hy2, ap25 hy2, ap26 hy2, ap27 hy2, ap28 hy2, ap29 hy2, ap30 hy2, ap31 hy2, ap32 hy2, ap33 hy2, ap34 hy2, ap35 hy2, ap36 hy2, ap37 hy2, ap38 hy2, ap39 hy2, ap40 hy2, ap41 hy2, ap42 hy2, ap43 hy2, ap0 hz1, ap1 hz1, ap2 hz1, ap3 hz1, ap4 hz1, ap5 hz1, ap6 hz1, ap7 hz1, ap8 hz1, ap9 hz1, ap10 hz1, ap11 hz1, ap12 hz1, ap13 hz1, ap14 hz1, ap15 hz1, ap16 hz1, ap17 hz1, ap18 hz1, ap19 hz1, ap20 hz1, ap21 hz1, ap22 hz1, ap23 hz1, ap24 hz1, ap25 hz1, ap26 hz1, ap27 hz1, ap28 hz1, ap29 hz1, ap30 hz1, ap31 hz1, ap32 hz1, ap33 hz1, ap34 hz1, ap35 hz1, ap36 hz1, ap37 hz1, ap38 hz1, ap39 hz1, ap40 hz1, ap41 hz1, ap42 hz1, ap43 hz1, hy12, hyh2, hz12, hzh, hyz, hzy]
      have g6 : decide (L.length ≤ xs.length + ys.length) = true := by have := hLL.out; simp at this ⊢; omega
      simp -dsimp -implicitDefEqProofs [-getElem?_pos, -List.map_append, -List.map_set, List.getElem?_cons_zero, List.getElem?_cons_succ, g6]
      refine call_CC (ce.out) ?_ (view3 rfl (view_recs (upd_same _ _ _) (by have := hL4; rw [← hZ'.out] at this; simpa using this) (by have := hLL.out; simp at this ⊢; omega)) rfl) (.inl ⟨rfl, rfl⟩)
      simp -dsimp -implicitDefEqProofs [-getElem?_pos, -List.map_append, -List.map_set, List.getElem?_cons_zero, List.getElem?_cons_succ, ap0 hlt2, ap1 hlt2, ap2 hlt2, ap3 hlt2, ap4 hlt2, ap5 hlt2, ap6 hlt2, ap7 hlt2, ap8 hlt2, ap9 hlt2, ap10 hlt2, ap11 hlt2, ap12 hlt2, ap13 hlt2, ap14 hlt2, ap15 hlt2, ap16 hlt2, ap17 hlt2, ap18 hlt2, ap19 hlt2, ap20 hlt2, ap21 hlt2, ap22 hlt2, ap23 hlt2, ap24 hlt2, ap25 hlt2, ap26 hlt2, ap27 hlt2, ap28 hlt2, ap29 hlt2, ap30 hlt2, ap31 hlt2, ap32 hlt2, ap33 hlt2, ap34 hlt2, ap35 hlt2, ap36 hlt2, ap37 hlt2, ap38 hlt2, ap39 hlt2, ap40 hlt2, ap41 hlt2, ap42 hlt2, ap43 hlt2]
      refine call_CC (cq.out) ?_
      simp -dsimp -implicitDefEqProofs [-getElem?_pos, -List.map_append, -List.map_set, List.getElem?_cons_zero, List.getElem?_cons_succ, ap0 hlt2, ap1 hlt2, ap2 hlt2, ap3 hlt2, ap4 hlt2, ap5 hlt2, ap6 hlt2, ap7 hlt2, ap8 hlt2, ap9 hlt2, ap10 hlt2, ap11 hlt2, ap12 hlt2, ap13 hlt2, ap14 hlt2, ap15 hlt2, ap16 hlt2, ap17 hlt2, ap18 hlt2, ap19 hlt2, ap20 hlt2, ap21 hlt2, ap22 hlt2, ap23 hlt2, ap24 hlt2, ap25 hlt2, ap26 hlt2, ap27 hlt2, ap28 hlt2, ap29 hlt2, ap30 hlt2, ap31 hlt2, ap32 hlt2, ap33 hlt2, ap34 hlt2, ap35 hlt2, ap36 hlt2, ap37 hlt2, ap38 hlt2, ap39 hlt2, ap40 hlt2, ap41 hlt2, ap42 hlt2, ap43 hlt2]
      refine call_CC (cd.out) ?_
      simp -dsimp -implicitDefEqProofs [-getElem?_pos, -List.map_append, -List.map_set, List.getElem?_cons_zero, List.getElem?_cons_succ, ap0 hlt2, ap1 hlt2, ap2 hlt2, ap3 hlt2, ap4 hlt2, ap5 hlt2, ap6 hlt2, ap7 hlt2, ap8 hlt2, ap9 hlt2, ap10 hlt2, ap11 hlt2, ap12 hlt2, ap13 hlt2, ap14 hlt2, ap15 hlt2, ap16 hlt2, ap17 hlt2, ap18 hlt2, ap19 hlt2, ap20 hlt2, ap21 hlt2, ap22 hlt2, ap23 hlt2, ap24 hlt2, ap25 hlt2, ap26 hlt2, ap27 hlt2, ap28 hlt2, ap29 hlt2, ap30 hlt2, ap31 hlt2, ap32 hlt2, ap33 hlt2, ap34 hlt2, ap35 hlt2, ap36 hlt2, ap37 hlt2, ap38 hlt2, ap39 hlt2, ap40 hlt2, ap41 hlt2, ap42 hlt2, ap43 hlt2]
      refine call_CC (ce.out) ?_
      simp -dsimp -implicitDefEqProofs [-getElem?_pos, -List.map_append, -List.map_set, List.getElem?_cons_zero, List.getElem?_cons_succ, ap0 hlt2, ap1 hlt2, ap2 hlt2, ap3 hlt2, ap4 hlt2, ap5 hlt2, ap6 hlt2, ap7 hlt2, ap8 hlt2, ap9 hlt2, ap10 hlt2, ap11 hlt2, ap12 hlt2, ap13 hlt2, ap14 hlt2, ap15 hlt2, ap16 hlt2, ap17 hlt2, ap18 hlt2, ap19 hlt2, ap20 hlt2, ap21 hlt2, ap22 hlt2, ap23 hlt2, ap24 hlt2, ap25 hlt2, ap26 hlt2, ap27 hlt2, ap28 hlt2, ap29 hlt2, ap30 hlt2, ap31 hlt2, ap32 hlt2, ap33 hlt2, ap34 hlt2, ap35 hlt2, ap36 hlt2, ap37 hlt2, ap38 hlt2, ap39 hlt2, ap40 hlt2, ap41 hlt2, ap42 hlt2, ap43 hlt2]
      exact ends_bool rfl

end Go.Proofs.YtallmebpmoaopaaDoor.E
