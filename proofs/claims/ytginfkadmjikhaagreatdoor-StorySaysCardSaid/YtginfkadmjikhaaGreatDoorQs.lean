
/- Qs: law.StorySays: what was done, and answered, is told as the reference tells it. -/
import Derived.Test.YtginfkadmjikhaaGreatDoorR2
import Derived.Test.YtginfkadmjikhaaGreatDoorP3
import Derived.Test.YtginfkadmjikhaaGreatDoorX3
namespace Go.Proofs.YtginfkadmjikhaaGreatDoor.E
open Go.RowKit Go.Proofs
set_option linter.unusedVariables false
set_option linter.unusedSimpArgs false
set_option maxRecDepth 100000
set_option maxHeartbeats 4000000
theorem ref_SameRec (a b : S.Rec) : C Tryz.prog 30 [.agg (recC false a), .agg (recC false b)] (Bool' (decide (a = b))) [] := by
 refine CI Tryz.func30 ?_
 refine rN ?_
 refine guardC_C (ref_SameCmd a.c b.c) (by first | rfl | (simp -dsimp -implicitDefEqProofs; done)) (by first | exact Or.inr (by rfl) | exact Or.inl (by rfl)) ?_
 refine rN ?_
 exact ends_eq (by cases a; cases b; simp [and_assoc])
theorem equal_recs_ref (xs ys : List S.Rec) : C Tryz.prog 29 [.lst false 7 (xs.map (recC false)), .lst false 7 (ys.map (recC false)), .fn 30 []] (Bool' (decide (xs = ys))) [] := by
 rw [<- eqAll_dec]
 exact equalFunc_recs (fun _ => rfl) xs ys (fun x y _ _ => ref_SameRec x y) (fun _ _ => ⟨rfl, rfl⟩)
theorem hallOf_told : ∀ (l : List S.Rec) (h : S.Hall) (told : List S.Answer), S.checkHall h = 0 -> (hallOfFrom h told l).2 = toldFrom h told l
 | [], h, told, h0 => rfl
 | r :: l, h, told, h0 => by
  unfold hallOfFrom toldFrom
  by_cases hr : S.checkRec r = 0
  ·have e : S.nextHall h r = S.nextedHall h r := by
    unfold S.nextHall
    rw [if_neg (by simp [h0]), if_neg (by simp [hr])]
   rw [if_neg (by simp [hr]), e]
   by_cases he : (S.nextedHall h r).2.2 = 0
   ·rw [if_neg (by simp [he]), if_neg (by simp [he])]
    refine hallOf_told l _ _ ?_
    have := (next_of (h := h) (r := r) (by rw [e]; exact he)).2.ok
    rwa [e] at this
   ·rw [if_pos he, if_pos he]
  ·have e : S.nextHall h r = (S.Hall.zero, S.Answer.zero, S.checkRec r) := by
    unfold S.nextHall
    rw [if_neg (by simp [h0]), if_pos hr]
   rw [if_pos hr, e, if_pos hr]
theorem recover_len (d : S.Disk) : (S.recoverDisk d).2.1.length <= 80 := by
 unfold S.recoverDisk
 split
 ·simp
 ·have r1 := S.lines_room d.safe (m := 80) (by omega)
  have r2 := S.lines_room d.wait (m := 80 - ((S.lines d.safe 80).1.length : Int)) (by omega)
  simp only [List.length_append]
  unfold S.kept
  omega
theorem check_disk {w : S.World} (h : S.checkWorld w = 0) : S.checkDisk w.d = 0 := by
 unfold S.checkWorld at h
 split at h
 ·cases h
 ·split at h
  ·cases h
  ·split at h
   ·rename_i g; exact absurd h g
   ·split at h
    ·rename_i g; exact absurd h g
    ·rename_i g
     rw [recover_err] at g
     exact Decidable.not_not.1 g
theorem law_StorySays (w : S.World) : C Tryz.prog 4 [.agg (worldC false w)] (Bool' true) [] := by
 have c3 := ref_CheckWorld w
 by_cases hb : S.checkWorld w = 0
 rotate_left
 ·have hd : S.doneWorld w = ([], S.checkWorld w) := by unfold S.doneWorld; rw [if_pos hb]
  have ht : toldWorld w = ([], S.checkWorld w) := by unfold toldWorld; rw [hd, if_pos hb]
  have c1 := hid (doneW_eq hd)
  have c2 := hid (told_eq ht)
  generalize S.checkWorld w = b at *
  have hb' : decide (b = 0) = false := by simp [hb]
  replace c3 := hid c3
  clear hd ht
  refine CI Tryz.func4 ?_
  refine rN ?_
  refine call_CC (c1.out) ?_
  refine rN ?_
  refine call_CC (c2.out) ?_
  refine rN ?_
  refine call_CC (c3.out) ?_
  refine rN ?_
  refine call_CC (law_told) ?_
  refine rS hb' ?_
  refine call_CC (law_told) ?_
  refine rS hb' ?_
  exact ends_bool rfl
 ·have hcd := check_disk hb
  have c5 := ref_Recovered w.d hcd
  have hl := recover_len w.d
  have hd : S.doneWorld w = ((S.recoverDisk w.d).2.1, 0) := by unfold S.doneWorld; rw [if_neg (by simp [hb])]
  have ht : toldWorld w = toldFrom S.Hall.new [] (S.recoverDisk w.d).2.1 := by unfold toldWorld; rw [hd, if_neg (by simp)]
  obtain ⟨⟨X, L, e⟩, hR⟩ : ∃ q, S.recoverDisk w.d = q := ⟨_, rfl⟩
  rw [hR] at c5 hl hd ht
  simp only at c5 hl hd ht
  have hh : (hallOf L).2 = toldFrom S.Hall.new [] L := by
   unfold hallOf
   rw [if_neg (by omega)]
   exact hallOf_told L S.Hall.new [] (by decide)
  obtain ⟨⟨G, a, f⟩, hG⟩ : ∃ q, hallOf L = q := ⟨_, rfl⟩
  have c6 := hid (hG ▸ ref_HallOf L)
  rw [hG] at hh
  rw [<- hh] at ht
  have c1 := hid (doneW_eq hd)
  have c2 := hid (told_eq ht)
  have c7 := equal_recs_ref L L
  have c8 := equal_answers_ref a a
  rw [decide_eq_true rfl] at c7 c8
  rw [hb] at c3
  replace c3 := hid c3
  replace c5 := hid c5
  replace c7 := hid c7
  replace c8 := hid c8
  clear hb hcd hd ht hR hh hG hl
  refine CI Tryz.func4 ?_
  refine rN ?_
  refine call_CC (c1.out) ?_
  refine rN ?_
  refine call_CC (c2.out) ?_
  refine rN ?_
  refine call_CC (c3.out) ?_
  refine rN ?_
  refine call_CC (law_told) ?_
  refine rN ?_
  refine call_CC (c5.out) ?_
  refine rN ?_
  refine call_CC (c6.out) ?_
  refine rN ?_
  refine call_CC (c7.out) ?_
  refine rN ?_
  refine call_CC (c8.out) ?_
  refine rN ?_
  exact ends_bool rfl
end Go.Proofs.YtginfkadmjikhaaGreatDoor.E
