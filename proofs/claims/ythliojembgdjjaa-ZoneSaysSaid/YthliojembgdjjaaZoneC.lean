/- ZoneC: zone.Write. -/
import Derived.Test.YthliojembgdjjaaZoneB
namespace Go.Proofs.Ythliojembgdjjaa
open Go.RowKit Go.Proofs
set_option linter.unusedVariables false
set_option maxRecDepth 100000

theorem ZoneV.mk {F : Nat → Prop} {w : World} {st : Int} {d : List Int} {s : Value} (h : Ints F w s d) : ZoneV F w (.agg #[.int .i64 st, s]) ⟨st, d⟩ := ⟨s, rfl, h⟩

/-- a zone's length is small where it is right -/
theorem small_of_check {z : S.Zone} (h : S.checkZone z = 0) : 0 ≤ z.st ∧ z.st ≤ 4 ∧ z.d.length ≤ 8 := by
  unfold S.checkZone at h
  split at h
  · cases h
  · rename_i h1
    split at h
    · cases h
    · rename_i h2
      exact ⟨by omega, by omega, by omega⟩

set_option maxHeartbeats 4000000 in
theorem zone_write_ok (F G : Nat → Prop) (w : World) (st : Int) (xs l : List Int) (n m : Nat) (a b : Option Addr) (cap cap2 : Nat) (hi : Ints F w (.slice a n cap) xs) (hl : Ints G w (.slice b m cap2) l)
    (hn : Hid (xs.length = n)) (hm : Hid (l.length = m)) (q3 : n ≤ 8) (q4 : 1 ≤ m) (q5 : ¬ st = 4) (q6 : n + m ≤ 8) (hck : Hid (S.checkZone ⟨st, xs⟩ = 0)) (d : Hid (l.any S.bad = false)) :
    Calls Try.prog 23 #[.agg #[.int .i64 st, .slice a n cap], .slice b m cap2] w fun e w' =>
      ∃ s, e = .returned (.tuple #[.agg #[.int .i64 (if n + m = 8 then 4 else if st = 2 then 2 else 1), s], .int .i64 0]) ∧ Ints (From w.heap.size) w' s (xs ++ l) ∧ Below w.heap.size w w' := by
  generalize hq : (if n + m = 8 then (4 : Int) else if st = 2 then 2 else 1) = q
  replace hq := hid hq
  have hb0 : Below w.heap.size w ((w.alloc (.cells #[.int .i64 st, .slice a n cap] 24)).alloc (.cells #[.int .i64 0, .slice none 0 0] 24)) := ((Below.refl _ _).alloc (Nat.le_refl _) _).alloc (by simp) _
  obtain ⟨bb, off, rfl, -, -, -⟩ := hl.some (by omega)
  obtain ⟨i0, hi0, hz0, hz1, hz2⟩ := info_parts info_int
  have e0 : ((m : Int) == 0) = false := by simp; omega
  have e1 : ¬ 8 < m := by omega
  have e3 : (st == 4) = false := by simpa using q5
  clear q5
  go_enter Try.func23, Try.ntmps23
  go_wp2_with fail
  refine (zone_check F _ _ ⟨_, xs⟩ (ZoneV.mk (hi.below hb0))).mono ?_
  rintro e w1 ⟨rfl, hb⟩
  rw [hck.out]
  have k1_0_0 := box_cell (b := w.heap.size) (o := 0) (v := .int .i64 st) hb (by first | assumption | go_simp)
  have f1_0_0 := box_free (b := w.heap.size) (o := 0) (v := .int .i64 st) hb (by go_simp) (by go_simp)
  have k1_0_1 := box_cell (b := w.heap.size) (o := 1) (v := .slice a n cap) hb (by first | assumption | go_simp)
  have f1_0_1 := box_free (b := w.heap.size) (o := 1) (v := .slice a n cap) hb (by go_simp) (by go_simp)
  have k1_1_0 := box_cell (b := w.heap.size + 1) (o := 0) (v := .int .i64 0) hb (by first | assumption | go_simp)
  have f1_1_0 := box_free (b := w.heap.size + 1) (o := 0) (v := .int .i64 0) hb (by go_simp) (by go_simp)
  have k1_1_1 := box_cell (b := w.heap.size + 1) (o := 1) (v := .slice none 0 0) hb (by first | assumption | go_simp)
  have f1_1_1 := box_free (b := w.heap.size + 1) (o := 1) (v := .slice none 0 0) hb (by go_simp) (by go_simp)
  have z1 := hb.size
  try simp at z1
  have Hhb := hid hb
  clear hb 
  go_wp2_with fail
  refine (containsFunc_int G _ _ l 98 S.bad (hl.below (by repeat (first | ((with_reducible refine Below.setCell ?_ ?_ _); rotate_left; exact (by first | omega | ((try dsimp only); ((repeat (first | rw [hs_setCell] | rw [hs_alloc] | rw [hs_drew] | rw [hs_drewN])) <;> omega)))) | ((with_reducible refine Below.alloc ?_ ?_ _); rotate_left; exact (by first | omega | ((try dsimp only); ((repeat (first | rw [hs_setCell] | rw [hs_alloc] | rw [hs_drew] | rw [hs_drewN])) <;> omega)))) | (with_reducible refine Below.drew ?_) | (with_reducible refine below_drewN ?_ _) | (with_reducible exact Below.refl _ _) | (with_reducible exact Hhb.out) | ((with_reducible refine Below.trans ?_ (Below.mono Hhb.out ?_)); rotate_left; exact (by first | omega | ((try dsimp only); ((repeat (first | rw [hs_setCell] | rw [hs_alloc] | rw [hs_drew] | rw [hs_drewN])) <;> omega))))))) (fun _ _ => by kernel_rfl) (hid writeBad)).mono ?_
  rintro e w2 ⟨rfl, rfl⟩
  rw [d.out]
  go_wp2_with fail
  refine (zone_copy F _ _ ⟨st, xs⟩ (ZoneV.mk (hi.below (by repeat (first | ((with_reducible refine Below.setCell ?_ ?_ _); rotate_left; exact (by first | omega | ((try dsimp only); ((repeat (first | rw [hs_setCell] | rw [hs_alloc] | rw [hs_drew] | rw [hs_drewN])) <;> omega)))) | ((with_reducible refine Below.alloc ?_ ?_ _); rotate_left; exact (by first | omega | ((try dsimp only); ((repeat (first | rw [hs_setCell] | rw [hs_alloc] | rw [hs_drew] | rw [hs_drewN])) <;> omega)))) | (with_reducible refine Below.drew ?_) | (with_reducible refine below_drewN ?_ _) | (with_reducible exact Below.refl _ _) | (with_reducible exact Hhb.out) | ((with_reducible refine Below.trans ?_ (Below.mono Hhb.out ?_)); rotate_left; exact (by first | omega | ((try dsimp only); ((repeat (first | rw [hs_setCell] | rw [hs_alloc] | rw [hs_drew] | rw [hs_drewN])) <;> omega)))))))) ?_).mono ?_
  · simp only; rw [hn.out]; omega
  rintro e w2 ⟨a2, c2, rfl, ho, hb2⟩
  simp only at ho
  rw [hn.out] at ho
  rw [hn.out]
  have k2_0_0 := box_cell (b := w.heap.size) (o := 0) (v := .int .i64 st) hb2 (by first | assumption | go_simp)
  have f2_0_0 := box_free (b := w.heap.size) (o := 0) (v := .int .i64 st) hb2 (by go_simp) (by go_simp)
  have k2_0_1 := box_cell (b := w.heap.size) (o := 1) (v := .slice a n cap) hb2 (by first | assumption | go_simp)
  have f2_0_1 := box_free (b := w.heap.size) (o := 1) (v := .slice a n cap) hb2 (by go_simp) (by go_simp)
  have k2_1_0 := box_cell (b := w.heap.size + 1) (o := 0) (v := .int .i64 0) hb2 (by first | assumption | go_simp)
  have f2_1_0 := box_free (b := w.heap.size + 1) (o := 0) (v := .int .i64 0) hb2 (by go_simp) (by go_simp)
  have k2_1_1 := box_cell (b := w.heap.size + 1) (o := 1) (v := .slice none 0 0) hb2 (by first | assumption | go_simp)
  have f2_1_1 := box_free (b := w.heap.size + 1) (o := 1) (v := .slice none 0 0) hb2 (by go_simp) (by go_simp)
  have z2 := hb2.size
  try simp at z2
  have Hhb2 := hid hb2
  clear hb2 k1_0_0 f1_0_0 k1_0_1 f1_0_1 k1_1_0 f1_1_0 k1_1_1 f1_1_1
  have HO := hid (own_setCell (p := ⟨w.heap.size, 1, none⟩) (own_setCell (p := ⟨w.heap.size, 0, none⟩) ho (by first | omega | ((try dsimp only); ((repeat (first | rw [hs_setCell] | rw [hs_alloc] | rw [hs_drew] | rw [hs_drewN])) <;> omega))) (.int .i64 st)) (by first | omega | ((try dsimp only); ((repeat (first | rw [hs_setCell] | rw [hs_alloc] | rw [hs_drew] | rw [hs_drewN])) <;> omega))) (.slice a2 n c2))
  have HLB : Hid (Ints G ((w2.setCell ⟨w.heap.size, 0, none⟩ (.int .i64 st)).setCell ⟨w.heap.size, 1, none⟩ (.slice a2 n c2)) (.slice (some ⟨bb, off, none⟩) m cap2) l) := hid (hl.below (by repeat (first | ((with_reducible refine Below.setCell ?_ ?_ _); rotate_left; exact (by first | omega | ((try dsimp only); ((repeat (first | rw [hs_setCell] | rw [hs_alloc] | rw [hs_drew] | rw [hs_drewN])) <;> omega)))) | ((with_reducible refine Below.alloc ?_ ?_ _); rotate_left; exact (by first | omega | ((try dsimp only); ((repeat (first | rw [hs_setCell] | rw [hs_alloc] | rw [hs_drew] | rw [hs_drewN])) <;> omega)))) | (with_reducible refine Below.drew ?_) | (with_reducible refine below_drewN ?_ _) | (with_reducible exact Below.refl _ _) | (with_reducible exact Hhb2.out) | (with_reducible exact Hhb.out) | ((with_reducible refine Below.trans ?_ (Below.mono Hhb2.out ?_)); rotate_left; exact (by first | omega | ((try dsimp only); ((repeat (first | rw [hs_setCell] | rw [hs_alloc] | rw [hs_drew] | rw [hs_drewN])) <;> omega)))) | ((with_reducible refine Below.trans ?_ (Below.mono Hhb.out ?_)); rotate_left; exact (by first | omega | ((try dsimp only); ((repeat (first | rw [hs_setCell] | rw [hs_alloc] | rw [hs_drew] | rw [hs_drewN])) <;> omega)))))))
  go_wp2_with (at_builtin; refine wpList_append_own _ rfl (.tmp 41) (.tmp 42) 22 rfl w1.heap.size 3 i0 (.int .i64 0) 1 8 Try.underlying22 hi0 hz0 hz1 hz2 rfl (by decide) _ n (iv xs) rfl HO.out ⟨bb, off, none⟩ m cap2 (iv l) rfl ?c1 ?c2 (iv_one _) ?c3 ?c4 ?c5 ?_)
  case c1 => rw [iv_length, hm.out]; omega
  case c2 => have := HLB.out; unfold Ints at this; rw [hm.out] at this; exact this.news
  case c3 => unfold maxLen; omega
  case c4 => omega
  case c5 => exact (by first | omega | ((try dsimp only); ((repeat (first | rw [hs_setCell] | rw [hs_alloc] | rw [hs_drew] | rw [hs_drewN])) <;> omega)))
  intro v3 w3 ho3 hg3 _
  have hb3 := below_append HO.out hg3 (by first | omega | ((try dsimp only); ((repeat (first | rw [hs_setCell] | rw [hs_alloc] | rw [hs_drew] | rw [hs_drewN])) <;> omega)))
  obtain ⟨a3, c3, rfl⟩ := own_shape ho3
  rw [iv_append] at ho3
  clear HO HLB hg3
  have k3_0_0 := box_cellB (b := w.heap.size) (o := 0) (v := .int .i64 st) hb3 (by first | omega | ((try dsimp only); ((repeat (first | rw [hs_setCell] | rw [hs_alloc] | rw [hs_drew] | rw [hs_drewN])) <;> omega))) (by first | assumption | go_simp)
  have f3_0_0 := box_freeB (b := w.heap.size) (o := 0) (v := .int .i64 st) hb3 (by first | omega | ((try dsimp only); ((repeat (first | rw [hs_setCell] | rw [hs_alloc] | rw [hs_drew] | rw [hs_drewN])) <;> omega))) (by go_simp) (by go_simp)
  have k3_0_1 := box_cellB (b := w.heap.size) (o := 1) (v := .slice a2 n c2) hb3 (by first | omega | ((try dsimp only); ((repeat (first | rw [hs_setCell] | rw [hs_alloc] | rw [hs_drew] | rw [hs_drewN])) <;> omega))) (by first | assumption | go_simp)
  have f3_0_1 := box_freeB (b := w.heap.size) (o := 1) (v := .slice a2 n c2) hb3 (by first | omega | ((try dsimp only); ((repeat (first | rw [hs_setCell] | rw [hs_alloc] | rw [hs_drew] | rw [hs_drewN])) <;> omega))) (by go_simp) (by go_simp)
  have k3_1_0 := box_cellB (b := w.heap.size + 1) (o := 0) (v := .int .i64 0) hb3 (by first | omega | ((try dsimp only); ((repeat (first | rw [hs_setCell] | rw [hs_alloc] | rw [hs_drew] | rw [hs_drewN])) <;> omega))) (by first | assumption | go_simp)
  have f3_1_0 := box_freeB (b := w.heap.size + 1) (o := 0) (v := .int .i64 0) hb3 (by first | omega | ((try dsimp only); ((repeat (first | rw [hs_setCell] | rw [hs_alloc] | rw [hs_drew] | rw [hs_drewN])) <;> omega))) (by go_simp) (by go_simp)
  have k3_1_1 := box_cellB (b := w.heap.size + 1) (o := 1) (v := .slice none 0 0) hb3 (by first | omega | ((try dsimp only); ((repeat (first | rw [hs_setCell] | rw [hs_alloc] | rw [hs_drew] | rw [hs_drewN])) <;> omega))) (by first | assumption | go_simp)
  have f3_1_1 := box_freeB (b := w.heap.size + 1) (o := 1) (v := .slice none 0 0) hb3 (by first | omega | ((try dsimp only); ((repeat (first | rw [hs_setCell] | rw [hs_alloc] | rw [hs_drew] | rw [hs_drewN])) <;> omega))) (by go_simp) (by go_simp)
  have z3 := hb3.size
  try simp at z3
  have Hhb3 := hid hb3
  clear hb3 k2_0_0 f2_0_0 k2_0_1 f2_0_1 k2_1_0 f2_1_0 k2_1_1 f2_1_1
  by_cases e2 : st = 2
  · subst e2
    have ss := setCell_same
    by_cases e8 : n + m = 8
    · have e9 : ((n : Int) + m == 8) = true := by simp; omega
      replace e8 := hid e8
      go_wp2_with fail
      refine bodyPost_ret (v := .tuple #[.agg #[.int .i64 4, .slice a3 (n + m) c3], .int .i64 0]) (by simp [results, Try.results23, go_sem, *]) rfl ⟨.slice a3 (n + m) c3, by rw [← hq.out]; simp [e8.out], Ints.own (B := w1.heap.size) (e := 3) (by first | omega | ((try dsimp only); ((repeat (first | rw [hs_setCell] | rw [hs_alloc] | rw [hs_drew] | rw [hs_drewN])) <;> omega))) (by rw [List.length_append, hn.out, hm.out]) (by repeat (first | ((with_reducible refine own_setCell ?_ ?_ _); rotate_left; exact (by first | omega | ((try dsimp only); ((repeat (first | rw [hs_setCell] | rw [hs_alloc] | rw [hs_drew] | rw [hs_drewN])) <;> omega)))) | (with_reducible refine own_alloc ?_ _) | (with_reducible refine own_drew ?_) | (with_reducible exact ho3))), (by repeat (first | ((with_reducible refine Below.setCell ?_ ?_ _); rotate_left; exact (by first | omega | ((try dsimp only); ((repeat (first | rw [hs_setCell] | rw [hs_alloc] | rw [hs_drew] | rw [hs_drewN])) <;> omega)))) | ((with_reducible refine Below.alloc ?_ ?_ _); rotate_left; exact (by first | omega | ((try dsimp only); ((repeat (first | rw [hs_setCell] | rw [hs_alloc] | rw [hs_drew] | rw [hs_drewN])) <;> omega)))) | (with_reducible refine Below.drew ?_) | (with_reducible refine below_drewN ?_ _) | (with_reducible exact Below.refl _ _) | (with_reducible exact Hhb3.out) | (with_reducible exact Hhb2.out) | (with_reducible exact Hhb.out) | ((with_reducible refine Below.trans ?_ (Below.mono Hhb3.out ?_)); rotate_left; exact (by first | omega | ((try dsimp only); ((repeat (first | rw [hs_setCell] | rw [hs_alloc] | rw [hs_drew] | rw [hs_drewN])) <;> omega)))) | ((with_reducible refine Below.trans ?_ (Below.mono Hhb2.out ?_)); rotate_left; exact (by first | omega | ((try dsimp only); ((repeat (first | rw [hs_setCell] | rw [hs_alloc] | rw [hs_drew] | rw [hs_drewN])) <;> omega)))) | ((with_reducible refine Below.trans ?_ (Below.mono Hhb.out ?_)); rotate_left; exact (by first | omega | ((try dsimp only); ((repeat (first | rw [hs_setCell] | rw [hs_alloc] | rw [hs_drew] | rw [hs_drewN])) <;> omega))))))⟩
    · have e9 : ((n : Int) + m == 8) = false := by simp; omega
      replace e8 := hid e8
      go_wp2_with fail
      refine bodyPost_ret (v := .tuple #[.agg #[.int .i64 2, .slice a3 (n + m) c3], .int .i64 0]) (by simp [results, Try.results23, go_sem, *]) rfl ⟨.slice a3 (n + m) c3, by rw [← hq.out]; simp [e8.out], Ints.own (B := w1.heap.size) (e := 3) (by first | omega | ((try dsimp only); ((repeat (first | rw [hs_setCell] | rw [hs_alloc] | rw [hs_drew] | rw [hs_drewN])) <;> omega))) (by rw [List.length_append, hn.out, hm.out]) (by repeat (first | ((with_reducible refine own_setCell ?_ ?_ _); rotate_left; exact (by first | omega | ((try dsimp only); ((repeat (first | rw [hs_setCell] | rw [hs_alloc] | rw [hs_drew] | rw [hs_drewN])) <;> omega)))) | (with_reducible refine own_alloc ?_ _) | (with_reducible refine own_drew ?_) | (with_reducible exact ho3))), (by repeat (first | ((with_reducible refine Below.setCell ?_ ?_ _); rotate_left; exact (by first | omega | ((try dsimp only); ((repeat (first | rw [hs_setCell] | rw [hs_alloc] | rw [hs_drew] | rw [hs_drewN])) <;> omega)))) | ((with_reducible refine Below.alloc ?_ ?_ _); rotate_left; exact (by first | omega | ((try dsimp only); ((repeat (first | rw [hs_setCell] | rw [hs_alloc] | rw [hs_drew] | rw [hs_drewN])) <;> omega)))) | (with_reducible refine Below.drew ?_) | (with_reducible refine below_drewN ?_ _) | (with_reducible exact Below.refl _ _) | (with_reducible exact Hhb3.out) | (with_reducible exact Hhb2.out) | (with_reducible exact Hhb.out) | ((with_reducible refine Below.trans ?_ (Below.mono Hhb3.out ?_)); rotate_left; exact (by first | omega | ((try dsimp only); ((repeat (first | rw [hs_setCell] | rw [hs_alloc] | rw [hs_drew] | rw [hs_drewN])) <;> omega)))) | ((with_reducible refine Below.trans ?_ (Below.mono Hhb2.out ?_)); rotate_left; exact (by first | omega | ((try dsimp only); ((repeat (first | rw [hs_setCell] | rw [hs_alloc] | rw [hs_drew] | rw [hs_drewN])) <;> omega)))) | ((with_reducible refine Below.trans ?_ (Below.mono Hhb.out ?_)); rotate_left; exact (by first | omega | ((try dsimp only); ((repeat (first | rw [hs_setCell] | rw [hs_alloc] | rw [hs_drew] | rw [hs_drewN])) <;> omega))))))⟩
  · have e7 : (st != 2) = true := by simp [e2]
    replace e2 := hid e2
    have ss := setCell_same
    by_cases e8 : n + m = 8
    · have e9 : ((n : Int) + m == 8) = true := by simp; omega
      replace e8 := hid e8
      go_wp2_with fail
      refine bodyPost_ret (v := .tuple #[.agg #[.int .i64 4, .slice a3 (n + m) c3], .int .i64 0]) (by simp [results, Try.results23, go_sem, *]) rfl ⟨.slice a3 (n + m) c3, by rw [← hq.out]; simp [e8.out], Ints.own (B := w1.heap.size) (e := 3) (by first | omega | ((try dsimp only); ((repeat (first | rw [hs_setCell] | rw [hs_alloc] | rw [hs_drew] | rw [hs_drewN])) <;> omega))) (by rw [List.length_append, hn.out, hm.out]) (by repeat (first | ((with_reducible refine own_setCell ?_ ?_ _); rotate_left; exact (by first | omega | ((try dsimp only); ((repeat (first | rw [hs_setCell] | rw [hs_alloc] | rw [hs_drew] | rw [hs_drewN])) <;> omega)))) | (with_reducible refine own_alloc ?_ _) | (with_reducible refine own_drew ?_) | (with_reducible exact ho3))), (by repeat (first | ((with_reducible refine Below.setCell ?_ ?_ _); rotate_left; exact (by first | omega | ((try dsimp only); ((repeat (first | rw [hs_setCell] | rw [hs_alloc] | rw [hs_drew] | rw [hs_drewN])) <;> omega)))) | ((with_reducible refine Below.alloc ?_ ?_ _); rotate_left; exact (by first | omega | ((try dsimp only); ((repeat (first | rw [hs_setCell] | rw [hs_alloc] | rw [hs_drew] | rw [hs_drewN])) <;> omega)))) | (with_reducible refine Below.drew ?_) | (with_reducible refine below_drewN ?_ _) | (with_reducible exact Below.refl _ _) | (with_reducible exact Hhb3.out) | (with_reducible exact Hhb2.out) | (with_reducible exact Hhb.out) | ((with_reducible refine Below.trans ?_ (Below.mono Hhb3.out ?_)); rotate_left; exact (by first | omega | ((try dsimp only); ((repeat (first | rw [hs_setCell] | rw [hs_alloc] | rw [hs_drew] | rw [hs_drewN])) <;> omega)))) | ((with_reducible refine Below.trans ?_ (Below.mono Hhb2.out ?_)); rotate_left; exact (by first | omega | ((try dsimp only); ((repeat (first | rw [hs_setCell] | rw [hs_alloc] | rw [hs_drew] | rw [hs_drewN])) <;> omega)))) | ((with_reducible refine Below.trans ?_ (Below.mono Hhb.out ?_)); rotate_left; exact (by first | omega | ((try dsimp only); ((repeat (first | rw [hs_setCell] | rw [hs_alloc] | rw [hs_drew] | rw [hs_drewN])) <;> omega))))))⟩
    · have e9 : ((n : Int) + m == 8) = false := by simp; omega
      replace e8 := hid e8
      go_wp2_with fail
      refine bodyPost_ret (v := .tuple #[.agg #[.int .i64 1, .slice a3 (n + m) c3], .int .i64 0]) (by simp [results, Try.results23, go_sem, *]) rfl ⟨.slice a3 (n + m) c3, by rw [← hq.out]; simp [e8.out, e2.out], Ints.own (B := w1.heap.size) (e := 3) (by first | omega | ((try dsimp only); ((repeat (first | rw [hs_setCell] | rw [hs_alloc] | rw [hs_drew] | rw [hs_drewN])) <;> omega))) (by rw [List.length_append, hn.out, hm.out]) (by repeat (first | ((with_reducible refine own_setCell ?_ ?_ _); rotate_left; exact (by first | omega | ((try dsimp only); ((repeat (first | rw [hs_setCell] | rw [hs_alloc] | rw [hs_drew] | rw [hs_drewN])) <;> omega)))) | (with_reducible refine own_alloc ?_ _) | (with_reducible refine own_drew ?_) | (with_reducible exact ho3))), (by repeat (first | ((with_reducible refine Below.setCell ?_ ?_ _); rotate_left; exact (by first | omega | ((try dsimp only); ((repeat (first | rw [hs_setCell] | rw [hs_alloc] | rw [hs_drew] | rw [hs_drewN])) <;> omega)))) | ((with_reducible refine Below.alloc ?_ ?_ _); rotate_left; exact (by first | omega | ((try dsimp only); ((repeat (first | rw [hs_setCell] | rw [hs_alloc] | rw [hs_drew] | rw [hs_drewN])) <;> omega)))) | (with_reducible refine Below.drew ?_) | (with_reducible refine below_drewN ?_ _) | (with_reducible exact Below.refl _ _) | (with_reducible exact Hhb3.out) | (with_reducible exact Hhb2.out) | (with_reducible exact Hhb.out) | ((with_reducible refine Below.trans ?_ (Below.mono Hhb3.out ?_)); rotate_left; exact (by first | omega | ((try dsimp only); ((repeat (first | rw [hs_setCell] | rw [hs_alloc] | rw [hs_drew] | rw [hs_drewN])) <;> omega)))) | ((with_reducible refine Below.trans ?_ (Below.mono Hhb2.out ?_)); rotate_left; exact (by first | omega | ((try dsimp only); ((repeat (first | rw [hs_setCell] | rw [hs_alloc] | rw [hs_drew] | rw [hs_drewN])) <;> omega)))) | ((with_reducible refine Below.trans ?_ (Below.mono Hhb.out ?_)); rotate_left; exact (by first | omega | ((try dsimp only); ((repeat (first | rw [hs_setCell] | rw [hs_alloc] | rw [hs_drew] | rw [hs_drewN])) <;> omega))))))⟩

set_option maxHeartbeats 4000000 in
theorem zone_write (F G : Nat → Prop) (w : World) (v u : Value) (z : S.Zone) (l : List Int) (hz : ZoneV F w v z) (hl : Ints G w u l) :
    Calls Try.prog 23 #[v, u] w fun e w' => ∃ s, e = .returned (.tuple #[.agg #[.int .i64 (S.writeZone z l).1.st, s], .int .i64 (S.writeZone z l).2]) ∧
      Ints (From w.heap.size) w' s (S.writeZone z l).1.d ∧ Below w.heap.size w w' := by
  obtain ⟨s, rfl, hi⟩ := hz
  obtain ⟨st, xs⟩ := z
  simp only at hi ⊢
  generalize hr : S.writeZone ⟨st, xs⟩ l = r
  generalize hck : S.checkZone ⟨st, xs⟩ = ck
  obtain ⟨n, a, cap, rfl, hn, h1, h2, h4, h3⟩ := hi.open
  obtain ⟨m, b, cap2, rfl, hm, g1, g2, g4, g3⟩ := hl.open
  have hb0 : Below w.heap.size w ((w.alloc (.cells #[.int .i64 st, .slice a n cap] 24)).alloc (.cells #[.int .i64 0, .slice none 0 0] 24)) := ((Below.refl _ _).alloc (Nat.le_refl _) _).alloc (by simp) _
  by_cases c1 : ck = 0
  · subst c1
    obtain ⟨q1, q2, q3⟩ := small_of_check hck
    simp only at q1 q2 q3
    rw [hn.out] at q3
    have y1 : Hid (m = 0 ∨ 8 < m → r = (⟨0, []⟩, 2)) := by intro c; rw [← hr]; simp [S.writeZone, hck, S.Zone.zero, hm.out, c]
    have y2 : Hid (¬ (m = 0 ∨ 8 < m) → l.any S.bad = true → r = (⟨0, []⟩, 3)) := by intro c d; rw [← hr]; simp only [S.writeZone, hck, S.Zone.zero, hm.out]; rw [if_neg (by simp), if_neg c, if_pos d]
    have y3 : Hid (¬ (m = 0 ∨ 8 < m) → l.any S.bad = false → st = 4 ∨ 8 < n + m → r = (⟨0, []⟩, 7)) := by intro c d g; rw [← hr]; simp only [S.writeZone, hck, S.Zone.zero, hm.out, hn.out]; rw [if_neg (by simp), if_neg c, if_neg (by simp [d]), if_pos g]
    have y4 : Hid (¬ (m = 0 ∨ 8 < m) → l.any S.bad = false → ¬ (st = 4 ∨ 8 < n + m) → r = (⟨if n + m = 8 then 4 else if st = 2 then 2 else 1, xs ++ l⟩, 0)) := by intro c d g; rw [← hr]; simp only [S.writeZone, hck, hm.out, hn.out]; rw [if_neg (by simp), if_neg c, if_neg (by simp [d]), if_neg g]
    replace hck := hid hck
    clear hr h3 g3 h4 g4
    by_cases c2 : m = 0 ∨ 8 < m
    · rw [y1.out c2]
      clear y1 y2 y3 y4
      rcases c2 with c2 | c2
      · subst c2
        go_enter Try.func23, Try.ntmps23
        go_wp2_with fail
        refine (zone_check F _ _ ⟨_, xs⟩ (ZoneV.mk (hi.below hb0))).mono ?_
        rintro e w1 ⟨rfl, hb⟩
        rw [hck.out]
        have k4_0_0 := box_cell (b := w.heap.size) (o := 0) (v := .int .i64 st) hb (by first | assumption | go_simp)
        have f4_0_0 := box_free (b := w.heap.size) (o := 0) (v := .int .i64 st) hb (by go_simp) (by go_simp)
        have k4_0_1 := box_cell (b := w.heap.size) (o := 1) (v := .slice a n cap) hb (by first | assumption | go_simp)
        have f4_0_1 := box_free (b := w.heap.size) (o := 1) (v := .slice a n cap) hb (by go_simp) (by go_simp)
        have k4_1_0 := box_cell (b := w.heap.size + 1) (o := 0) (v := .int .i64 0) hb (by first | assumption | go_simp)
        have f4_1_0 := box_free (b := w.heap.size + 1) (o := 0) (v := .int .i64 0) hb (by go_simp) (by go_simp)
        have k4_1_1 := box_cell (b := w.heap.size + 1) (o := 1) (v := .slice none 0 0) hb (by first | assumption | go_simp)
        have f4_1_1 := box_free (b := w.heap.size + 1) (o := 1) (v := .slice none 0 0) hb (by go_simp) (by go_simp)
        have z4 := hb.size
        try simp at z4
        have Hhb := hid hb
        clear hb 
        go_wp2_with fail
        refine bodyPost_ret (v := .tuple #[.agg #[.int .i64 0, .slice none 0 0], .int .i64 2]) (by simp [results, Try.results23, go_sem, *]) rfl ⟨_, rfl, Ints.nil _ _, (by repeat (first | ((with_reducible refine Below.setCell ?_ ?_ _); rotate_left; exact (by first | omega | ((try dsimp only); ((repeat (first | rw [hs_setCell] | rw [hs_alloc] | rw [hs_drew] | rw [hs_drewN])) <;> omega)))) | ((with_reducible refine Below.alloc ?_ ?_ _); rotate_left; exact (by first | omega | ((try dsimp only); ((repeat (first | rw [hs_setCell] | rw [hs_alloc] | rw [hs_drew] | rw [hs_drewN])) <;> omega)))) | (with_reducible refine Below.drew ?_) | (with_reducible refine below_drewN ?_ _) | (with_reducible exact Below.refl _ _) | (with_reducible exact Hhb.out) | ((with_reducible refine Below.trans ?_ (Below.mono Hhb.out ?_)); rotate_left; exact (by first | omega | ((try dsimp only); ((repeat (first | rw [hs_setCell] | rw [hs_alloc] | rw [hs_drew] | rw [hs_drewN])) <;> omega))))))⟩
      · have e0 : ((m : Int) == 0) = false := by simp; omega
        go_enter Try.func23, Try.ntmps23
        go_wp2_with fail
        refine (zone_check F _ _ ⟨_, xs⟩ (ZoneV.mk (hi.below hb0))).mono ?_
        rintro e w1 ⟨rfl, hb⟩
        rw [hck.out]
        have k5_0_0 := box_cell (b := w.heap.size) (o := 0) (v := .int .i64 st) hb (by first | assumption | go_simp)
        have f5_0_0 := box_free (b := w.heap.size) (o := 0) (v := .int .i64 st) hb (by go_simp) (by go_simp)
        have k5_0_1 := box_cell (b := w.heap.size) (o := 1) (v := .slice a n cap) hb (by first | assumption | go_simp)
        have f5_0_1 := box_free (b := w.heap.size) (o := 1) (v := .slice a n cap) hb (by go_simp) (by go_simp)
        have k5_1_0 := box_cell (b := w.heap.size + 1) (o := 0) (v := .int .i64 0) hb (by first | assumption | go_simp)
        have f5_1_0 := box_free (b := w.heap.size + 1) (o := 0) (v := .int .i64 0) hb (by go_simp) (by go_simp)
        have k5_1_1 := box_cell (b := w.heap.size + 1) (o := 1) (v := .slice none 0 0) hb (by first | assumption | go_simp)
        have f5_1_1 := box_free (b := w.heap.size + 1) (o := 1) (v := .slice none 0 0) hb (by go_simp) (by go_simp)
        have z5 := hb.size
        try simp at z5
        have Hhb := hid hb
        clear hb 
        go_wp2_with fail
        refine bodyPost_ret (v := .tuple #[.agg #[.int .i64 0, .slice none 0 0], .int .i64 2]) (by simp [results, Try.results23, go_sem, *]) rfl ⟨_, rfl, Ints.nil _ _, (by repeat (first | ((with_reducible refine Below.setCell ?_ ?_ _); rotate_left; exact (by first | omega | ((try dsimp only); ((repeat (first | rw [hs_setCell] | rw [hs_alloc] | rw [hs_drew] | rw [hs_drewN])) <;> omega)))) | ((with_reducible refine Below.alloc ?_ ?_ _); rotate_left; exact (by first | omega | ((try dsimp only); ((repeat (first | rw [hs_setCell] | rw [hs_alloc] | rw [hs_drew] | rw [hs_drewN])) <;> omega)))) | (with_reducible refine Below.drew ?_) | (with_reducible refine below_drewN ?_ _) | (with_reducible exact Below.refl _ _) | (with_reducible exact Hhb.out) | ((with_reducible refine Below.trans ?_ (Below.mono Hhb.out ?_)); rotate_left; exact (by first | omega | ((try dsimp only); ((repeat (first | rw [hs_setCell] | rw [hs_alloc] | rw [hs_drew] | rw [hs_drewN])) <;> omega))))))⟩
    have y2 := hid (y2.out c2)
    have y3 := hid (y3.out c2)
    have y4 := hid (y4.out c2)
    have e0 : ((m : Int) == 0) = false := by simp; omega
    have e1 : ¬ 8 < m := by omega
    have e2 : 1 ≤ m := by omega
    clear y1 c2
    cases d : l.any S.bad
    · replace y3 := hid (y3.out d)
      replace y4 := hid (y4.out d)
      replace d := hid d
      clear y2
      by_cases c4 : st = 4 ∨ 8 < n + m
      · rw [y3.out c4]
        clear y3 y4
        rcases c4 with c4 | c4
        · subst c4
          go_enter Try.func23, Try.ntmps23
          go_wp2_with fail
          refine (zone_check F _ _ ⟨_, xs⟩ (ZoneV.mk (hi.below hb0))).mono ?_
          rintro e w1 ⟨rfl, hb⟩
          rw [hck.out]
          have k6_0_0 := box_cell (b := w.heap.size) (o := 0) (v := .int .i64 4) hb (by first | assumption | go_simp)
          have f6_0_0 := box_free (b := w.heap.size) (o := 0) (v := .int .i64 4) hb (by go_simp) (by go_simp)
          have k6_0_1 := box_cell (b := w.heap.size) (o := 1) (v := .slice a n cap) hb (by first | assumption | go_simp)
          have f6_0_1 := box_free (b := w.heap.size) (o := 1) (v := .slice a n cap) hb (by go_simp) (by go_simp)
          have k6_1_0 := box_cell (b := w.heap.size + 1) (o := 0) (v := .int .i64 0) hb (by first | assumption | go_simp)
          have f6_1_0 := box_free (b := w.heap.size + 1) (o := 0) (v := .int .i64 0) hb (by go_simp) (by go_simp)
          have k6_1_1 := box_cell (b := w.heap.size + 1) (o := 1) (v := .slice none 0 0) hb (by first | assumption | go_simp)
          have f6_1_1 := box_free (b := w.heap.size + 1) (o := 1) (v := .slice none 0 0) hb (by go_simp) (by go_simp)
          have z6 := hb.size
          try simp at z6
          have Hhb := hid hb
          clear hb 
          go_wp2_with fail
          refine (containsFunc_int G _ _ l 98 S.bad (hl.below (by repeat (first | ((with_reducible refine Below.setCell ?_ ?_ _); rotate_left; exact (by first | omega | ((try dsimp only); ((repeat (first | rw [hs_setCell] | rw [hs_alloc] | rw [hs_drew] | rw [hs_drewN])) <;> omega)))) | ((with_reducible refine Below.alloc ?_ ?_ _); rotate_left; exact (by first | omega | ((try dsimp only); ((repeat (first | rw [hs_setCell] | rw [hs_alloc] | rw [hs_drew] | rw [hs_drewN])) <;> omega)))) | (with_reducible refine Below.drew ?_) | (with_reducible refine below_drewN ?_ _) | (with_reducible exact Below.refl _ _) | (with_reducible exact Hhb.out) | ((with_reducible refine Below.trans ?_ (Below.mono Hhb.out ?_)); rotate_left; exact (by first | omega | ((try dsimp only); ((repeat (first | rw [hs_setCell] | rw [hs_alloc] | rw [hs_drew] | rw [hs_drewN])) <;> omega))))))) (fun _ _ => by kernel_rfl) (hid writeBad)).mono ?_
          rintro e w2 ⟨rfl, rfl⟩
          rw [d.out]
          go_wp2_with fail
          refine bodyPost_ret (v := .tuple #[.agg #[.int .i64 0, .slice none 0 0], .int .i64 7]) (by simp [results, Try.results23, go_sem, *]) rfl ⟨_, rfl, Ints.nil _ _, (by repeat (first | ((with_reducible refine Below.setCell ?_ ?_ _); rotate_left; exact (by first | omega | ((try dsimp only); ((repeat (first | rw [hs_setCell] | rw [hs_alloc] | rw [hs_drew] | rw [hs_drewN])) <;> omega)))) | ((with_reducible refine Below.alloc ?_ ?_ _); rotate_left; exact (by first | omega | ((try dsimp only); ((repeat (first | rw [hs_setCell] | rw [hs_alloc] | rw [hs_drew] | rw [hs_drewN])) <;> omega)))) | (with_reducible refine Below.drew ?_) | (with_reducible refine below_drewN ?_ _) | (with_reducible exact Below.refl _ _) | (with_reducible exact Hhb.out) | ((with_reducible refine Below.trans ?_ (Below.mono Hhb.out ?_)); rotate_left; exact (by first | omega | ((try dsimp only); ((repeat (first | rw [hs_setCell] | rw [hs_alloc] | rw [hs_drew] | rw [hs_drewN])) <;> omega))))))⟩
        · have e3 : decide ((8 : Int) - n < m) = true := by simp; omega
          go_enter Try.func23, Try.ntmps23
          go_wp2_with fail
          refine (zone_check F _ _ ⟨_, xs⟩ (ZoneV.mk (hi.below hb0))).mono ?_
          rintro e w1 ⟨rfl, hb⟩
          rw [hck.out]
          have k7_0_0 := box_cell (b := w.heap.size) (o := 0) (v := .int .i64 st) hb (by first | assumption | go_simp)
          have f7_0_0 := box_free (b := w.heap.size) (o := 0) (v := .int .i64 st) hb (by go_simp) (by go_simp)
          have k7_0_1 := box_cell (b := w.heap.size) (o := 1) (v := .slice a n cap) hb (by first | assumption | go_simp)
          have f7_0_1 := box_free (b := w.heap.size) (o := 1) (v := .slice a n cap) hb (by go_simp) (by go_simp)
          have k7_1_0 := box_cell (b := w.heap.size + 1) (o := 0) (v := .int .i64 0) hb (by first | assumption | go_simp)
          have f7_1_0 := box_free (b := w.heap.size + 1) (o := 0) (v := .int .i64 0) hb (by go_simp) (by go_simp)
          have k7_1_1 := box_cell (b := w.heap.size + 1) (o := 1) (v := .slice none 0 0) hb (by first | assumption | go_simp)
          have f7_1_1 := box_free (b := w.heap.size + 1) (o := 1) (v := .slice none 0 0) hb (by go_simp) (by go_simp)
          have z7 := hb.size
          try simp at z7
          have Hhb := hid hb
          clear hb 
          go_wp2_with fail
          refine (containsFunc_int G _ _ l 98 S.bad (hl.below (by repeat (first | ((with_reducible refine Below.setCell ?_ ?_ _); rotate_left; exact (by first | omega | ((try dsimp only); ((repeat (first | rw [hs_setCell] | rw [hs_alloc] | rw [hs_drew] | rw [hs_drewN])) <;> omega)))) | ((with_reducible refine Below.alloc ?_ ?_ _); rotate_left; exact (by first | omega | ((try dsimp only); ((repeat (first | rw [hs_setCell] | rw [hs_alloc] | rw [hs_drew] | rw [hs_drewN])) <;> omega)))) | (with_reducible refine Below.drew ?_) | (with_reducible refine below_drewN ?_ _) | (with_reducible exact Below.refl _ _) | (with_reducible exact Hhb.out) | ((with_reducible refine Below.trans ?_ (Below.mono Hhb.out ?_)); rotate_left; exact (by first | omega | ((try dsimp only); ((repeat (first | rw [hs_setCell] | rw [hs_alloc] | rw [hs_drew] | rw [hs_drewN])) <;> omega))))))) (fun _ _ => by kernel_rfl) (hid writeBad)).mono ?_
          rintro e w2 ⟨rfl, rfl⟩
          rw [d.out]
          go_wp2_with fail
          all_goals refine bodyPost_ret (v := .tuple #[.agg #[.int .i64 0, .slice none 0 0], .int .i64 7]) (by simp [results, Try.results23, go_sem, *]) rfl ⟨_, rfl, Ints.nil _ _, (by repeat (first | ((with_reducible refine Below.setCell ?_ ?_ _); rotate_left; exact (by first | omega | ((try dsimp only); ((repeat (first | rw [hs_setCell] | rw [hs_alloc] | rw [hs_drew] | rw [hs_drewN])) <;> omega)))) | ((with_reducible refine Below.alloc ?_ ?_ _); rotate_left; exact (by first | omega | ((try dsimp only); ((repeat (first | rw [hs_setCell] | rw [hs_alloc] | rw [hs_drew] | rw [hs_drewN])) <;> omega)))) | (with_reducible refine Below.drew ?_) | (with_reducible refine below_drewN ?_ _) | (with_reducible exact Below.refl _ _) | (with_reducible exact Hhb.out) | ((with_reducible refine Below.trans ?_ (Below.mono Hhb.out ?_)); rotate_left; exact (by first | omega | ((try dsimp only); ((repeat (first | rw [hs_setCell] | rw [hs_alloc] | rw [hs_drew] | rw [hs_drewN])) <;> omega))))))⟩
      · replace y4 := hid (y4.out c4)
        exact (zone_write_ok F G w st xs l n m a b cap cap2 hi hl hn hm q3 (by omega) (by omega) (by omega) hck d).mono fun e w' ⟨s, h1, h2, h3⟩ => ⟨s, by rw [h1, y4.out], by rw [y4.out]; exact h2, h3⟩
    · rw [y2.out d]
      replace d := hid d
      clear y2 y3 y4
      go_enter Try.func23, Try.ntmps23
      go_wp2_with fail
      refine (zone_check F _ _ ⟨_, xs⟩ (ZoneV.mk (hi.below hb0))).mono ?_
      rintro e w1 ⟨rfl, hb⟩
      rw [hck.out]
      have k8_0_0 := box_cell (b := w.heap.size) (o := 0) (v := .int .i64 st) hb (by first | assumption | go_simp)
      have f8_0_0 := box_free (b := w.heap.size) (o := 0) (v := .int .i64 st) hb (by go_simp) (by go_simp)
      have k8_0_1 := box_cell (b := w.heap.size) (o := 1) (v := .slice a n cap) hb (by first | assumption | go_simp)
      have f8_0_1 := box_free (b := w.heap.size) (o := 1) (v := .slice a n cap) hb (by go_simp) (by go_simp)
      have k8_1_0 := box_cell (b := w.heap.size + 1) (o := 0) (v := .int .i64 0) hb (by first | assumption | go_simp)
      have f8_1_0 := box_free (b := w.heap.size + 1) (o := 0) (v := .int .i64 0) hb (by go_simp) (by go_simp)
      have k8_1_1 := box_cell (b := w.heap.size + 1) (o := 1) (v := .slice none 0 0) hb (by first | assumption | go_simp)
      have f8_1_1 := box_free (b := w.heap.size + 1) (o := 1) (v := .slice none 0 0) hb (by go_simp) (by go_simp)
      have z8 := hb.size
      try simp at z8
      have Hhb := hid hb
      clear hb 
      go_wp2_with fail
      refine (containsFunc_int G _ _ l 98 S.bad (hl.below (by repeat (first | ((with_reducible refine Below.setCell ?_ ?_ _); rotate_left; exact (by first | omega | ((try dsimp only); ((repeat (first | rw [hs_setCell] | rw [hs_alloc] | rw [hs_drew] | rw [hs_drewN])) <;> omega)))) | ((with_reducible refine Below.alloc ?_ ?_ _); rotate_left; exact (by first | omega | ((try dsimp only); ((repeat (first | rw [hs_setCell] | rw [hs_alloc] | rw [hs_drew] | rw [hs_drewN])) <;> omega)))) | (with_reducible refine Below.drew ?_) | (with_reducible refine below_drewN ?_ _) | (with_reducible exact Below.refl _ _) | (with_reducible exact Hhb.out) | ((with_reducible refine Below.trans ?_ (Below.mono Hhb.out ?_)); rotate_left; exact (by first | omega | ((try dsimp only); ((repeat (first | rw [hs_setCell] | rw [hs_alloc] | rw [hs_drew] | rw [hs_drewN])) <;> omega))))))) (fun _ _ => by kernel_rfl) (hid writeBad)).mono ?_
      rintro e w2 ⟨rfl, rfl⟩
      rw [d.out]
      go_wp2_with fail
      refine bodyPost_ret (v := .tuple #[.agg #[.int .i64 0, .slice none 0 0], .int .i64 3]) (by simp [results, Try.results23, go_sem, *]) rfl ⟨_, rfl, Ints.nil _ _, (by repeat (first | ((with_reducible refine Below.setCell ?_ ?_ _); rotate_left; exact (by first | omega | ((try dsimp only); ((repeat (first | rw [hs_setCell] | rw [hs_alloc] | rw [hs_drew] | rw [hs_drewN])) <;> omega)))) | ((with_reducible refine Below.alloc ?_ ?_ _); rotate_left; exact (by first | omega | ((try dsimp only); ((repeat (first | rw [hs_setCell] | rw [hs_alloc] | rw [hs_drew] | rw [hs_drewN])) <;> omega)))) | (with_reducible refine Below.drew ?_) | (with_reducible refine below_drewN ?_ _) | (with_reducible exact Below.refl _ _) | (with_reducible exact Hhb.out) | ((with_reducible refine Below.trans ?_ (Below.mono Hhb.out ?_)); rotate_left; exact (by first | omega | ((try dsimp only); ((repeat (first | rw [hs_setCell] | rw [hs_alloc] | rw [hs_drew] | rw [hs_drewN])) <;> omega))))))⟩
  · have hrr : Hid (r = (⟨0, []⟩, ck)) := hid (by rw [← hr]; simp [S.writeZone, hck, c1, S.Zone.zero])
    have hck := hid hck
    clear hr h3 g3 h4
    go_enter Try.func23, Try.ntmps23
    go_wp2_with fail
    refine (zone_check F _ _ ⟨_, xs⟩ (ZoneV.mk (hi.below hb0))).mono ?_
    rintro e w1 ⟨rfl, hb⟩
    rw [hck.out]
    have k9_0_0 := box_cell (b := w.heap.size) (o := 0) (v := .int .i64 st) hb (by first | assumption | go_simp)
    have f9_0_0 := box_free (b := w.heap.size) (o := 0) (v := .int .i64 st) hb (by go_simp) (by go_simp)
    have k9_0_1 := box_cell (b := w.heap.size) (o := 1) (v := .slice a n cap) hb (by first | assumption | go_simp)
    have f9_0_1 := box_free (b := w.heap.size) (o := 1) (v := .slice a n cap) hb (by go_simp) (by go_simp)
    have k9_1_0 := box_cell (b := w.heap.size + 1) (o := 0) (v := .int .i64 0) hb (by first | assumption | go_simp)
    have f9_1_0 := box_free (b := w.heap.size + 1) (o := 0) (v := .int .i64 0) hb (by go_simp) (by go_simp)
    have k9_1_1 := box_cell (b := w.heap.size + 1) (o := 1) (v := .slice none 0 0) hb (by first | assumption | go_simp)
    have f9_1_1 := box_free (b := w.heap.size + 1) (o := 1) (v := .slice none 0 0) hb (by go_simp) (by go_simp)
    have z9 := hb.size
    try simp at z9
    have Hhb := hid hb
    clear hb 
    go_wp2_with fail
    rw [hrr.out]
    refine bodyPost_ret (v := .tuple #[.agg #[.int .i64 0, .slice none 0 0], .int .i64 ck]) (by simp [results, Try.results23, go_sem, *]) rfl ⟨_, rfl, Ints.nil _ _, (by repeat (first | ((with_reducible refine Below.setCell ?_ ?_ _); rotate_left; exact (by first | omega | ((try dsimp only); ((repeat (first | rw [hs_setCell] | rw [hs_alloc] | rw [hs_drew] | rw [hs_drewN])) <;> omega)))) | ((with_reducible refine Below.alloc ?_ ?_ _); rotate_left; exact (by first | omega | ((try dsimp only); ((repeat (first | rw [hs_setCell] | rw [hs_alloc] | rw [hs_drew] | rw [hs_drewN])) <;> omega)))) | (with_reducible refine Below.drew ?_) | (with_reducible refine below_drewN ?_ _) | (with_reducible exact Below.refl _ _) | (with_reducible exact Hhb.out) | ((with_reducible refine Below.trans ?_ (Below.mono Hhb.out ?_)); rotate_left; exact (by first | omega | ((try dsimp only); ((repeat (first | rw [hs_setCell] | rw [hs_alloc] | rw [hs_drew] | rw [hs_drewN])) <;> omega))))))⟩

end Go.Proofs.Ythliojembgdjjaa
