/- Ye: room for a zone; zones that are held open, written. -/
import Derived.Test.YtdjdjnmccphbjaaYd
namespace Go.Proofs.Ytdjdjnmccphbjaa.E
open Go.RowKit Go.Proofs
set_option maxRecDepth 100000
set_option maxHeartbeats 1000000
set_option linter.unusedSimpArgs false

theorem indexFunc_zones (p : S.Zone → Bool) (f : FuncId) (xs : List S.Zone) (hlen : xs.length ≤ maxLen) (hf : ∀ x, C Try.prog f [.agg (zoneC false x)] (Bool' (p x)) []) : C Try.prog 137 [.lst false 2 (xs.map (zoneC false)), .fn f []] (Int' (S.idx p xs)) [] := by
  unfold maxLen at hlen
  refine C_inline [] Try.func137 (fun _ _ => by kernel_rfl) rfl (by kernel_rfl) (by rfl) (by decide) (by rfl) (by rfl) (by rfl) ?_
  simp -dsimp -implicitDefEqProofs [-getElem?_pos, -List.map_append, -List.map_set, List.getElem?_cons_zero, List.getElem?_cons_succ]
  refine loop_count 8 xs.length (fun k _ m _ => Hid (∀ (j : Nat) (y : S.Zone), j < k → xs[j]? = some y → p y = false)) _ rfl (by rfl) (by intro j y hj; omega) ?_ ?_
  · rintro k t h m hk hci hs hb
    have hw : IntKind.i64.wrap ((k : Int) + 1) = (k : Int) + 1 := wrap_ok (by omega)
    obtain ⟨x, hx⟩ : ∃ x, xs[k]? = some x := ⟨xs[k], by simp⟩
    have hk' : decide (k < xs.length) = true := by simp [hk]
    have e0 := hs 0 rfl
    have e1 := hs 1 rfl
    have e7 := hs 7 rfl
    clear hs
    simp -dsimp -implicitDefEqProofs at e0 e1 e7
    replace hk := hid hk
    have hc := hid (hf x)
    clear hf
    simp -dsimp -implicitDefEqProofs [-getElem?_pos, -List.map_append, -List.map_set, List.getElem?_cons_zero, List.getElem?_cons_succ, e0, e1, e7, hci, hk', hx]
    refine call_C (hc.out) (by first | rfl | (simp -dsimp -implicitDefEqProofs; done)) (by first | exact Or.inr (by rfl) | exact Or.inl ⟨by rfl, by first | rfl | simp [newNews, newLeaf, I]⟩) (Nat.le_of_ble_eq_true rfl) ?_
    simp -dsimp -implicitDefEqProofs [-getElem?_pos, -List.map_append, -List.map_set, List.getElem?_cons_zero, List.getElem?_cons_succ]
    cases hp : p x
    · simp -dsimp -implicitDefEqProofs [-getElem?_pos, -List.map_append, -List.map_set, List.getElem?_cons_zero, List.getElem?_cons_succ, hw, hci, e0, e1, e7]
      exact upto_succ hb.out hx hp
    · simp -dsimp -implicitDefEqProofs [-getElem?_pos, -List.map_append, -List.map_set, List.getElem?_cons_zero, List.getElem?_cons_succ]
      exact ends_int (idx_at hb.out hx hp).symm
  · rintro t h m hci hs hb
    have e0 := hs 0 rfl
    have e1 := hs 1 rfl
    have e7 := hs 7 rfl
    clear hs
    simp -dsimp -implicitDefEqProofs at e0 e1 e7
    simp -dsimp -implicitDefEqProofs [-getElem?_pos, -List.map_append, -List.map_set, List.getElem?_cons_zero, List.getElem?_cons_succ, e0, e1, e7, hci]
    exact ends_int (idx_none hb.out).symm
theorem room_one (z : S.Zone) : C Try.prog 138 [.agg (zoneC false z)] (Bool' (decide (z.st = 1))) [] := by
  refine C_inline [] Try.func138 (fun _ _ => by kernel_rfl) rfl (by kernel_rfl) (by rfl) (by decide) (by rfl) (by rfl) (by rfl) ?_
  simp -dsimp -implicitDefEqProofs [-getElem?_pos, -List.map_append, -List.map_set, List.getElem?_cons_zero, List.getElem?_cons_succ]
  exact ends_bool rfl

/-- by what a function promises on the caller's memory -/
theorem call_CSm {P : Program} {id : Nat} {f : FuncId} {args : List AV} {t : Nat → AV} {h : Heap} {n : Nat} {d : Option Tmp} {K : St → Prop} {i j} {Q : Heap → Nat → AV → Prop} (hC : CS P f args h n Q) (hk : ∀ h' n' r, Q h' n' r → K (St.put ⟨t, h', n'⟩ d r)) : callA P false id f args t h n d K i j :=
  Or.inr ⟨rfl, hC.1, fun B W0 ρ ok w vs H hv => (hC.2 B W0 ρ ok w vs H hv).mono (by
    rintro e w' ⟨v, h', n', r, ρ', ok', a1, a2, a3⟩
    exact ⟨v, h', n', r, ρ', ok', a1, hk _ _ _ a2, a3⟩)⟩

theorem mapM2 {α β : Type} {f : α → Option β} {a b : α} {a' b' : β} (h : f a = some a') (g : f b = some b') : [a, b].mapM f = some [a', b'] := by
  rw [List.mapM_cons, h, List.mapM_cons, g]; rfl
theorem view_zones {h : Heap} {i n : Nat} {ty : TypeId} {fr : Bool} {zs : List S.Zone} (hi : h i = some ⟨ty, 2, zs.map (zoneC fr)⟩) (hn : n = zs.length) : viewV h (.own i 0 n) = some (.lst false 2 (zs.map (zoneC false))) := by
  subst hn
  show (match h i with | some e => if 0 + zs.length ≤ e.rows.length then (((e.rows.drop 0).take zs.length).mapM fun (r : List AV) => r.mapM (leafP h [] 2)).map (AV.lst false e.s ·) else none | none => none) = _
  rw [hi]
  simp only [List.drop_zero]
  rw [if_pos (by simp), take_map_len, mapM_map (f := zoneC fr) (g := fun (r : List AV) => r.mapM (leafP h [] 2)) (e := zoneC false) (fun _ => by rfl) zs]
  rfl

/-- what room leaves -/
def RoomQ (zs : List S.Zone) (n : Nat) (h : Heap) (i m : Nat) (h' : Heap) (m' : Nat) (r : AV) : Prop :=
  r = Int' (S.room zs n).2 ∧ h' i = some ⟨72, 2, (S.room zs n).1.map (zoneC true)⟩ ∧ (∀ j, j ≠ i → j < m → h' j = h j) ∧ m ≤ m'

theorem room_CS (zs : List S.Zone) (n : Nat) (z : S.Zone) (hz : zs[n]? = some z) (hl : zs.length = 4) (h : Heap) (i m : Nat) (hi : h i = some ⟨72, 2, zs.map (zoneC true)⟩) (him : i < m) :
    CS Try.prog 105 [.own i 0 4, Int' n] h m (RoomQ zs n h i m) := by
  have hn : n < 4 := by rw [← hl]; exact (List.getElem?_eq_some_iff.1 hz).1
  have hrm : S.room zs n = if S.isOpen z = true then (zs, 0) else if z.st = 4 then (zs, 7) else if z.st = 0 ∧ zs.countP S.isActive = 3 then (zs, 7) else if zs.countP S.isOpen < 2 then (zs, 0)
      else if S.idx (fun z => decide (z.st = 1)) zs < 0 then (zs, 7) else (zs.set (S.idx (fun z => decide (z.st = 1)) zs).toNat (S.shutZ (zs.getD (S.idx (fun z => decide (z.st = 1)) zs).toNat S.Zone.zero)), 0) := by
    unfold S.room
    simp only [List.getD, hz, Option.getD_some]
  have hne : ∀ c, ¬ i = m + c := fun c => by omega
  have hne2 : ∀ c, ¬ m + c = i := fun c => by omega
  have hoth : ∀ j c, j < m → ¬ j = m + c := fun j c hj => by omega
  unfold RoomQ
  obtain ⟨r, hr⟩ : ∃ r, S.room zs n = r := ⟨_, rfl⟩
  rw [hr] at hrm ⊢
  clear hr
  replace hrm := hid hrm
  replace hoth := hid hoth
  refine CS_inline (typesOk _) Try.func105 (fun _ _ => by kernel_rfl) rfl (by kernel_rfl) (Nat.le_of_ble_eq_true rfl) ?_
  simp -dsimp -implicitDefEqProofs [-getElem?_pos, -List.map_append, -List.map_set, List.getElem?_cons_zero, List.getElem?_cons_succ, hi, hn, hl, hz, hne, Nat.add_assoc]
  refine brA_split (fun h1 => ?_) (fun h1 => ?_)
  · obtain rfl : r = (zs, 0) := by rw [hrm.out, if_pos (by simpa [S.isOpen] using h1)]
    simp -dsimp -implicitDefEqProofs [-getElem?_pos, -List.map_append, -List.map_set, List.getElem?_cons_zero, List.getElem?_cons_succ, hi, hne, Nat.add_assoc]
    intro j hj1 hj2; simp [hoth.out j _ hj2, hj1]
  have q1 : ¬ S.isOpen z = true := by rw [Bool.not_eq_true]; simpa [S.isOpen] using h1
  have r1 := hrm.out
  rw [if_neg q1] at r1
  replace r1 := hid r1
  clear hrm
  simp -dsimp -implicitDefEqProofs [-getElem?_pos, -List.map_append, -List.map_set, List.getElem?_cons_zero, List.getElem?_cons_succ, hi, hn, hl, hz, hne, Nat.add_assoc]
  refine brA_split (fun h2 => ?_) (fun h2 => ?_)
  · obtain rfl : r = (zs, 7) := by rw [r1.out, if_pos (by simpa using h2)]
    simp -dsimp -implicitDefEqProofs [-getElem?_pos, -List.map_append, -List.map_set, List.getElem?_cons_zero, List.getElem?_cons_succ, hi, hne, Nat.add_assoc]
    intro j hj1 hj2; simp [hoth.out j _ hj2, hj1]
  have r2 := r1.out
  rw [if_neg (by simpa using h2)] at r2
  replace r2 := hid r2
  clear r1
  have vz : ∀ (g : Heap), g i = some ⟨72, 2, zs.map (zoneC true)⟩ → viewV g (.own i 0 4) = some (.lst false 2 (zs.map (zoneC false))) := fun g hg => view_zones hg hl.symm
  replace vz := hid vz
  have rest : ∀ (t : Nat → AV) (h2 : Heap) (m2 : Nat), t 0 = .own i 0 4 → h2 i = some ⟨72, 2, zs.map (zoneC true)⟩ → True := fun _ _ _ _ _ => trivial
  clear rest
  by_cases h3 : z.st = 0
  · simp -dsimp -implicitDefEqProofs [-getElem?_pos, -List.map_append, -List.map_set, List.getElem?_cons_zero, List.getElem?_cons_succ, hi, hn, hl, hz, hne, Nat.add_assoc, h3]
    refine call_C (count_active zs) (mapM2 (vz.out _ (by simp [hne, hi])) (by simp -dsimp -implicitDefEqProofs)) (Or.inl ⟨rfl, rfl⟩) (Nat.le_of_ble_eq_true rfl) ?_
    simp -dsimp -implicitDefEqProofs [-getElem?_pos, -List.map_append, -List.map_set, List.getElem?_cons_zero, List.getElem?_cons_succ, hi, hn, hl, hz, hne, Nat.add_assoc, h3]
    refine brA_split (fun h4 => ?_) (fun h4 => ?_)
    · obtain rfl : r = (zs, 7) := by rw [r2.out, if_pos ⟨h3, by simp at h4; omega⟩]
      simp -dsimp -implicitDefEqProofs [-getElem?_pos, -List.map_append, -List.map_set, List.getElem?_cons_zero, List.getElem?_cons_succ, hi, hne, Nat.add_assoc]
      intro j hj1 hj2; simp [hoth.out j _ hj2, hj1]
    have r3 := r2.out
    rw [if_neg (by simp at h4; omega)] at r3
    replace r3 := hid r3
    clear r2
    simp -dsimp -implicitDefEqProofs [-getElem?_pos, -List.map_append, -List.map_set, List.getElem?_cons_zero, List.getElem?_cons_succ, hi, hn, hl, hz, hne, Nat.add_assoc]
    refine call_C (count_open zs) (mapM2 (vz.out _ (by simp [hne, hi])) (by simp -dsimp -implicitDefEqProofs)) (Or.inl ⟨rfl, rfl⟩) (Nat.le_of_ble_eq_true rfl) ?_
    simp -dsimp -implicitDefEqProofs [-getElem?_pos, -List.map_append, -List.map_set, List.getElem?_cons_zero, List.getElem?_cons_succ, hi, hn, hl, hz, hne, Nat.add_assoc]
    refine brA_split (fun h5 => ?_) (fun h5 => ?_)
    · obtain rfl : r = (zs, 0) := by rw [r3.out, if_pos (by simp at h5; omega)]
      simp -dsimp -implicitDefEqProofs [-getElem?_pos, -List.map_append, -List.map_set, List.getElem?_cons_zero, List.getElem?_cons_succ, hi, hne, Nat.add_assoc]
      intro j hj1 hj2; simp [hoth.out j _ hj2, hj1]
    have r4 := r3.out
    rw [if_neg (by simp at h5; omega)] at r4
    replace r4 := hid r4
    clear r3
    simp -dsimp -implicitDefEqProofs [-getElem?_pos, -List.map_append, -List.map_set, List.getElem?_cons_zero, List.getElem?_cons_succ, hi, hn, hl, hz, hne, Nat.add_assoc]
    refine call_C (indexFunc_zones _ _ zs (by rw [hl]; decide) room_one) (mapM2 (vz.out _ (by simp [hne, hi])) rfl) (Or.inl ⟨rfl, rfl⟩) (Nat.le_of_ble_eq_true rfl) ?_
    rcases idx_spec (p := fun z : S.Zone => decide (z.st = 1)) zs with e | ⟨k, x, e, hx, hpx⟩
    · rw [e]
      obtain rfl : r = (zs, 7) := by rw [r4.out, if_pos (by rw [e]; decide)]
      simp -dsimp -implicitDefEqProofs [-getElem?_pos, -List.map_append, -List.map_set, List.getElem?_cons_zero, List.getElem?_cons_succ, hi, hne, Nat.add_assoc]
      intro j hj1 hj2; simp [hoth.out j _ hj2, hj1]
    · rw [e]
      have hk4 : k < 4 := by rw [← hl]; exact (List.getElem?_eq_some_iff.1 hx).1
      have hk0 : decide ((k : Int) < 0) = false := by simp
      obtain rfl : r = (zs.set k (S.shutZ x), 0) := by rw [r4.out, if_neg (by rw [e]; omega), e]; simp [hx]
      have hg := fun y => get_set_self (y := y) hx
      simp -dsimp -implicitDefEqProofs [-getElem?_pos, -List.map_append, -List.map_set, List.getElem?_cons_zero, List.getElem?_cons_succ, hi, hn, hl, hne, Nat.add_assoc, hk0, hk4, hx]
      refine call_CS (CS_inline (typesOk _) Try.func106 (fun _ _ => by kernel_rfl) rfl (by kernel_rfl) (Nat.le_of_ble_eq_true rfl) ?_)
      simp -dsimp -implicitDefEqProofs [-getElem?_pos, -List.map_append, -List.map_set, List.getElem?_cons_zero, List.getElem?_cons_succ, hi, hn, hl, hne, Nat.add_assoc, hk0, hk4, hx, hg]
      refine brA_split (fun g => ?_) (fun g => ?_)
      · have e : S.shutZ x = ⟨0, x.d⟩ := by simp at g; simp [S.shutZ, g]
        rw [e]
        simp -dsimp -implicitDefEqProofs [-getElem?_pos, -List.map_append, -List.map_set, List.getElem?_cons_zero, List.getElem?_cons_succ, hi, hn, hl, hne, Nat.add_assoc, hk0, hk4, hx, hg]
        intro j hj1 hj2; simp [hoth.out j _ hj2, hj1]
      · have e : S.shutZ x = ⟨3, x.d⟩ := by simp at g; simp [S.shutZ, g]
        rw [e]
        simp -dsimp -implicitDefEqProofs [-getElem?_pos, -List.map_append, -List.map_set, List.getElem?_cons_zero, List.getElem?_cons_succ, hi, hn, hl, hne, Nat.add_assoc, hk0, hk4, hx, hg]
        intro j hj1 hj2; simp [hoth.out j _ hj2, hj1]
  · have r3 := r2.out
    rw [if_neg (by simp [h3])] at r3
    replace r3 := hid r3
    clear r2
    simp -dsimp -implicitDefEqProofs [-getElem?_pos, -List.map_append, -List.map_set, List.getElem?_cons_zero, List.getElem?_cons_succ, hi, hn, hl, hz, hne, Nat.add_assoc, h3]
    refine call_C (count_open zs) (mapM2 (vz.out _ (by simp [hne, hi])) (by simp -dsimp -implicitDefEqProofs)) (Or.inl ⟨rfl, rfl⟩) (Nat.le_of_ble_eq_true rfl) ?_
    simp -dsimp -implicitDefEqProofs [-getElem?_pos, -List.map_append, -List.map_set, List.getElem?_cons_zero, List.getElem?_cons_succ, hi, hn, hl, hz, hne, Nat.add_assoc]
    refine brA_split (fun h5 => ?_) (fun h5 => ?_)
    · obtain rfl : r = (zs, 0) := by rw [r3.out, if_pos (by simp at h5; omega)]
      simp -dsimp -implicitDefEqProofs [-getElem?_pos, -List.map_append, -List.map_set, List.getElem?_cons_zero, List.getElem?_cons_succ, hi, hne, Nat.add_assoc]
      intro j hj1 hj2; simp [hoth.out j _ hj2, hj1]
    have r4 := r3.out
    rw [if_neg (by simp at h5; omega)] at r4
    replace r4 := hid r4
    clear r3
    simp -dsimp -implicitDefEqProofs [-getElem?_pos, -List.map_append, -List.map_set, List.getElem?_cons_zero, List.getElem?_cons_succ, hi, hn, hl, hz, hne, Nat.add_assoc]
    refine call_C (indexFunc_zones _ _ zs (by rw [hl]; decide) room_one) (mapM2 (vz.out _ (by simp [hne, hi])) rfl) (Or.inl ⟨rfl, rfl⟩) (Nat.le_of_ble_eq_true rfl) ?_
    rcases idx_spec (p := fun z : S.Zone => decide (z.st = 1)) zs with e | ⟨k, x, e, hx, hpx⟩
    · rw [e]
      obtain rfl : r = (zs, 7) := by rw [r4.out, if_pos (by rw [e]; decide)]
      simp -dsimp -implicitDefEqProofs [-getElem?_pos, -List.map_append, -List.map_set, List.getElem?_cons_zero, List.getElem?_cons_succ, hi, hne, Nat.add_assoc]
      intro j hj1 hj2; simp [hoth.out j _ hj2, hj1]
    · rw [e]
      have hk4 : k < 4 := by rw [← hl]; exact (List.getElem?_eq_some_iff.1 hx).1
      have hk0 : decide ((k : Int) < 0) = false := by simp
      obtain rfl : r = (zs.set k (S.shutZ x), 0) := by rw [r4.out, if_neg (by rw [e]; omega), e]; simp [hx]
      have hg := fun y => get_set_self (y := y) hx
      simp -dsimp -implicitDefEqProofs [-getElem?_pos, -List.map_append, -List.map_set, List.getElem?_cons_zero, List.getElem?_cons_succ, hi, hn, hl, hne, Nat.add_assoc, hk0, hk4, hx]
      refine call_CS (CS_inline (typesOk _) Try.func106 (fun _ _ => by kernel_rfl) rfl (by kernel_rfl) (Nat.le_of_ble_eq_true rfl) ?_)
      simp -dsimp -implicitDefEqProofs [-getElem?_pos, -List.map_append, -List.map_set, List.getElem?_cons_zero, List.getElem?_cons_succ, hi, hn, hl, hne, Nat.add_assoc, hk0, hk4, hx, hg]
      refine brA_split (fun g => ?_) (fun g => ?_)
      · have e : S.shutZ x = ⟨0, x.d⟩ := by simp at g; simp [S.shutZ, g]
        rw [e]
        simp -dsimp -implicitDefEqProofs [-getElem?_pos, -List.map_append, -List.map_set, List.getElem?_cons_zero, List.getElem?_cons_succ, hi, hn, hl, hne, Nat.add_assoc, hk0, hk4, hx, hg]
        intro j hj1 hj2; simp [hoth.out j _ hj2, hj1]
      · have e : S.shutZ x = ⟨3, x.d⟩ := by simp at g; simp [S.shutZ, g]
        rw [e]
        simp -dsimp -implicitDefEqProofs [-getElem?_pos, -List.map_append, -List.map_set, List.getElem?_cons_zero, List.getElem?_cons_succ, hi, hn, hl, hne, Nat.add_assoc, hk0, hk4, hx, hg]
        intro j hj1 hj2; simp [hoth.out j _ hj2, hj1]

end Go.Proofs.Ytdjdjnmccphbjaa.E
