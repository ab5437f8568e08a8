/- RefD: the reference's ReadZone. -/
import Derived.Test.YthliojembgdjjaaRefC
namespace Go.Proofs.Ythliojembgdjjaa
open Go.RowKit Go.Proofs
set_option linter.unusedVariables false
set_option maxRecDepth 100000

theorem take_next {xs : List Int} {k i : Nat} (h : k + i < xs.length) : (xs.drop k).take (i + 1) = (xs.drop k).take i ++ [nth xs (k + i)] := by
  rw [List.take_succ_eq_append_getElem (by rw [List.length_drop]; omega), nth_eq h]
  simp

set_option maxHeartbeats 8000000 in
theorem ref_readZone (F : Nat → Prop) (w : World) (v : Value) (z : S.Zone) (k n : Int) (hz : ZoneV F w v z) :
    Calls Try.prog 31 #[v, .int .i64 k, .int .i64 n] w fun e w' => ∃ s, e = .returned (.tuple #[s, .int .i64 (S.readZone z k n).2]) ∧
      Ints (From w.heap.size) w' s (S.readZone z k n).1 ∧ Below w.heap.size w w' := by
  obtain ⟨s, rfl, hi⟩ := hz
  obtain ⟨st, xs⟩ := z
  simp only at hi ⊢
  generalize hr : S.readZone ⟨st, xs⟩ k n = r
  generalize hck : S.checkZone ⟨st, xs⟩ = ck
  obtain ⟨m, a, cap, rfl, hm, h1, h2, h4, h3⟩ := hi.open
  have hb0 : Below w.heap.size w (w.alloc (.cells #[.int .i64 st, .slice a m cap] 24)) := (Below.refl _ _).alloc (Nat.le_refl _) _
  by_cases c1 : ck = 0
  · subst c1
    obtain ⟨q1, q2, q3⟩ := small_of_check hck
    simp only at q1 q2 q3
    rw [hm.out] at q3
    have y1 : Hid (k < 0 ∨ 8 < k ∨ n < 0 ∨ 8 - k < n → r = ([], 3)) := hid (by intro c; rw [← hr]; simp only [S.readZone, hck]; rw [if_neg (by simp), if_pos c])
    have y2 : Hid (¬ (k < 0 ∨ 8 < k ∨ n < 0 ∨ 8 - k < n) → (m : Int) < k + n → r = ([], 6)) := hid (by intro c d; rw [← hr]; simp only [S.readZone, hck, hm.out]; rw [if_neg (by simp), if_neg c, if_pos d])
    have y3 : Hid (¬ (k < 0 ∨ 8 < k ∨ n < 0 ∨ 8 - k < n) → ¬ (m : Int) < k + n → r = ((xs.drop k.toNat).take n.toNat, 0)) := hid (by intro c d; rw [← hr]; simp only [S.readZone, hck, hm.out]; rw [if_neg (by simp), if_neg c, if_neg d])
    replace hck := hid hck
    clear hr h4
    by_cases c2 : k < 0 ∨ 8 < k ∨ n < 0 ∨ 8 - k < n
    · rw [y1.out c2]
      clear y1 y2 y3 h3
      by_cases d1 : k < 0 ∨ 8 < k
      · have i1 : Hid ((!S.out 0 8 k) = false) := hid (by simp [S.out]; omega)
        clear c2 d1
        go_enter Try.func31, Try.ntmps31
        go_wp2_with fail
        refine (ref_checkZone F _ _ ⟨_, xs⟩ (ZoneV.mk (hi.below hb0))).mono ?_
        rintro e w1 ⟨rfl, hb⟩
        rw [hck.out]
        have k1_0_0 := box_cell (b := w.heap.size) (o := 0) (v := .int .i64 st) hb (by first | assumption | go_simp)
        have f1_0_0 := box_free (b := w.heap.size) (o := 0) (v := .int .i64 st) hb (by go_simp) (by go_simp)
        have k1_0_1 := box_cell (b := w.heap.size) (o := 1) (v := .slice a m cap) hb (by first | assumption | go_simp)
        have f1_0_1 := box_free (b := w.heap.size) (o := 1) (v := .slice a m cap) hb (by go_simp) (by go_simp)
        have z1 := hb.size
        try simp at z1
        have Hhb := hid hb
        clear hb 
        go_wp2_with fail
        refine (ref_in _ _ _ _).mono ?_
        rintro e w2 ⟨rfl, rfl⟩
        rw [i1.out]
        go_wp2_with fail
        go_ret2
        exact ⟨_, rfl, Ints.nil _ _, (by repeat (first | ((with_reducible refine Below.setCell ?_ ?_ _); rotate_left; exact (by first | omega | ((try dsimp only); ((repeat (first | rw [hs_setCell] | rw [hs_alloc] | rw [hs_drew] | rw [hs_drewN])) <;> omega)))) | ((with_reducible refine Below.alloc ?_ ?_ _); rotate_left; exact (by first | omega | ((try dsimp only); ((repeat (first | rw [hs_setCell] | rw [hs_alloc] | rw [hs_drew] | rw [hs_drewN])) <;> omega)))) | (with_reducible refine Below.drew ?_) | (with_reducible refine below_drewN ?_ _) | (with_reducible exact Below.refl _ _) | (with_reducible exact Hhb.out) | ((with_reducible refine Below.trans ?_ (Below.mono Hhb.out ?_)); rotate_left; exact (by first | omega | ((try dsimp only); ((repeat (first | rw [hs_setCell] | rw [hs_alloc] | rw [hs_drew] | rw [hs_drewN])) <;> omega))))))⟩
      · have i1 : Hid ((!S.out 0 8 k) = true) := hid (by simp [S.out]; omega)
        have i2 : Hid ((!S.out 0 (8 - k) n) = false) := hid (by simp [S.out]; omega)
        have d2 : 0 ≤ k := by omega
        have d3 : k ≤ 8 := by omega
        clear c2 d1
        go_enter Try.func31, Try.ntmps31
        go_wp2_with fail
        refine (ref_checkZone F _ _ ⟨_, xs⟩ (ZoneV.mk (hi.below hb0))).mono ?_
        rintro e w1 ⟨rfl, hb⟩
        rw [hck.out]
        have k2_0_0 := box_cell (b := w.heap.size) (o := 0) (v := .int .i64 st) hb (by first | assumption | go_simp)
        have f2_0_0 := box_free (b := w.heap.size) (o := 0) (v := .int .i64 st) hb (by go_simp) (by go_simp)
        have k2_0_1 := box_cell (b := w.heap.size) (o := 1) (v := .slice a m cap) hb (by first | assumption | go_simp)
        have f2_0_1 := box_free (b := w.heap.size) (o := 1) (v := .slice a m cap) hb (by go_simp) (by go_simp)
        have z2 := hb.size
        try simp at z2
        have Hhb := hid hb
        clear hb 
        go_wp2_with fail
        refine (ref_in _ _ _ _).mono ?_
        rintro e w2 ⟨rfl, rfl⟩
        rw [i1.out]
        go_wp2_with fail
        refine (ref_in _ _ _ _).mono ?_
        rintro e w2 ⟨rfl, rfl⟩
        rw [i2.out]
        go_wp2_with fail
        go_ret2
        exact ⟨_, rfl, Ints.nil _ _, (by repeat (first | ((with_reducible refine Below.setCell ?_ ?_ _); rotate_left; exact (by first | omega | ((try dsimp only); ((repeat (first | rw [hs_setCell] | rw [hs_alloc] | rw [hs_drew] | rw [hs_drewN])) <;> omega)))) | ((with_reducible refine Below.alloc ?_ ?_ _); rotate_left; exact (by first | omega | ((try dsimp only); ((repeat (first | rw [hs_setCell] | rw [hs_alloc] | rw [hs_drew] | rw [hs_drewN])) <;> omega)))) | (with_reducible refine Below.drew ?_) | (with_reducible refine below_drewN ?_ _) | (with_reducible exact Below.refl _ _) | (with_reducible exact Hhb.out) | ((with_reducible refine Below.trans ?_ (Below.mono Hhb.out ?_)); rotate_left; exact (by first | omega | ((try dsimp only); ((repeat (first | rw [hs_setCell] | rw [hs_alloc] | rw [hs_drew] | rw [hs_drewN])) <;> omega))))))⟩
    · replace y2 := hid (y2.out c2)
      replace y3 := hid (y3.out c2)
      have i1 : Hid ((!S.out 0 8 k) = true) := hid (by simp [S.out]; omega)
      have i2 : Hid ((!S.out 0 (8 - k) n) = true) := hid (by simp [S.out]; omega)
      have d1 : 0 ≤ k := by omega
      have d2 : k ≤ 8 := by omega
      have d3 : 0 ≤ n := by omega
      have d4 : n ≤ 8 - k := by omega
      clear y1 c2
      obtain ⟨kn, rfl⟩ := Int.eq_ofNat_of_zero_le d1
      obtain ⟨nn, rfl⟩ := Int.eq_ofNat_of_zero_le d3
      obtain ⟨i0, hi0, hz0, hz1, hz2⟩ := info_parts info_int
      go_enter Try.func31, Try.ntmps31
      go_wp2_with fail
      refine (ref_checkZone F _ _ ⟨_, xs⟩ (ZoneV.mk (hi.below hb0))).mono ?_
      rintro e w1 ⟨rfl, hb⟩
      rw [hck.out]
      have k3_0_0 := box_cell (b := w.heap.size) (o := 0) (v := .int .i64 st) hb (by first | assumption | go_simp)
      have f3_0_0 := box_free (b := w.heap.size) (o := 0) (v := .int .i64 st) hb (by go_simp) (by go_simp)
      have k3_0_1 := box_cell (b := w.heap.size) (o := 1) (v := .slice a m cap) hb (by first | assumption | go_simp)
      have f3_0_1 := box_free (b := w.heap.size) (o := 1) (v := .slice a m cap) hb (by go_simp) (by go_simp)
      have z3 := hb.size
      try simp at z3
      have Hhb := hid hb
      clear hb 
      go_wp2_with fail
      refine (ref_in _ _ _ _).mono ?_
      rintro e w2 ⟨rfl, rfl⟩
      rw [i1.out]
      go_wp2_with fail
      refine (ref_in _ _ _ _).mono ?_
      rintro e w2 ⟨rfl, rfl⟩
      rw [i2.out]
      go_wp2_with fail
      go_loopw [9, 10, 27] (fun o x i wr => Below w1.heap.size w1 wr ∧ ∃ (j : Nat) (b : Option Addr) (c : Nat), j ≤ nn ∧ (j = 0 ∨ kn + j ≤ m) ∧ i = .int .i64 j ∧ o = .slice b j c ∧ wr.ownsRow w1.heap.size 3 1 (.slice b j c) j (iv ((xs.drop kn).take j))) (fun _ _ i _ => nn - (intOf i).toNat)
      case atStart => exact ⟨Below.refl _ _, 0, none, 0, Nat.zero_le _, .inl rfl, rfl, rfl, by simpa [iv] using World.ownsRow_nil _ _ _ _⟩
      case round =>
        obtain ⟨hB, j, bq, cq, hj, hjm, rfl, rfl, ho⟩ := hrel
        have k2 := box_cell (b := w.heap.size) (o := 0) hB k3_0_0
        have k3 := box_cell (b := w.heap.size) (o := 1) hB k3_0_1
        have zr := hB.size
        replace hB := hid hB
        have hw : Below w.heap.size w wr := (by repeat (first | ((with_reducible refine Below.setCell ?_ ?_ _); rotate_left; exact (by first | omega | ((try dsimp only); ((repeat (first | rw [hs_setCell] | rw [hs_alloc] | rw [hs_drew] | rw [hs_drewN])) <;> omega)))) | ((with_reducible refine Below.alloc ?_ ?_ _); rotate_left; exact (by first | omega | ((try dsimp only); ((repeat (first | rw [hs_setCell] | rw [hs_alloc] | rw [hs_drew] | rw [hs_drewN])) <;> omega)))) | (with_reducible refine Below.drew ?_) | (with_reducible refine below_drewN ?_ _) | (with_reducible exact Below.refl _ _) | (with_reducible exact hB.out) | (with_reducible exact Hhb.out) | ((with_reducible refine Below.trans ?_ (Below.mono hB.out ?_)); rotate_left; exact (by first | omega | ((try dsimp only); ((repeat (first | rw [hs_setCell] | rw [hs_alloc] | rw [hs_drew] | rw [hs_drewN])) <;> omega)))) | ((with_reducible refine Below.trans ?_ (Below.mono Hhb.out ?_)); rotate_left; exact (by first | omega | ((try dsimp only); ((repeat (first | rw [hs_setCell] | rw [hs_alloc] | rw [hs_drew] | rw [hs_drewN])) <;> omega))))))
        by_cases hlt : j < nn
        · by_cases hge : m ≤ kn + j
          · have hz := hid (y2.out (by omega))
            clear h3 y2 y3 ho hw hjm
            go_wp2_with fail
            rw [hz.out]
            go_ret2
            exact ⟨_, rfl, Ints.nil _ _, (by repeat (first | ((with_reducible refine Below.setCell ?_ ?_ _); rotate_left; exact (by first | omega | ((try dsimp only); ((repeat (first | rw [hs_setCell] | rw [hs_alloc] | rw [hs_drew] | rw [hs_drewN])) <;> omega)))) | ((with_reducible refine Below.alloc ?_ ?_ _); rotate_left; exact (by first | omega | ((try dsimp only); ((repeat (first | rw [hs_setCell] | rw [hs_alloc] | rw [hs_drew] | rw [hs_drewN])) <;> omega)))) | (with_reducible refine Below.drew ?_) | (with_reducible refine below_drewN ?_ _) | (with_reducible exact Below.refl _ _) | (with_reducible exact hB.out) | (with_reducible exact Hhb.out) | ((with_reducible refine Below.trans ?_ (Below.mono hB.out ?_)); rotate_left; exact (by first | omega | ((try dsimp only); ((repeat (first | rw [hs_setCell] | rw [hs_alloc] | rw [hs_drew] | rw [hs_drewN])) <;> omega)))) | ((with_reducible refine Below.trans ?_ (Below.mono Hhb.out ?_)); rotate_left; exact (by first | omega | ((try dsimp only); ((repeat (first | rw [hs_setCell] | rw [hs_alloc] | rw [hs_drew] | rw [hs_drewN])) <;> omega))))))⟩
          · obtain ⟨b, off, rfl, hbl, hc⟩ := h3 (kn + j) (by omega)
            have hcr : wr.cell? ⟨b, off + (kn + j), none⟩ = some (.int .i64 (nth xs (kn + j))) := by rw [hw.cell (p := ⟨b, off + (kn + j), none⟩) hbl]; exact hc
            have HO := hid (own_alloc ho (.cells #[.int .i64 (nth xs (kn + j))] 3))
            have HS : Hid (Sl T (wr.alloc (.cells #[.int .i64 (nth xs (kn + j))] 3)) (.slice (some ⟨wr.heap.size, 0, none⟩) 1 1) 1 1 (iv [nth xs (kn + j)])) := hid (ints_at (T' := 3) (xs := [nth xs (kn + j)]) rfl (by decide) (heap_alloc_at rfl rfl))
            have hT := hid (take_next (xs := xs) (k := kn) (i := j) (by rw [hm.out]; omega))
            have hle : kn + (j + 1) ≤ m := by omega
            clear h3 y2 y3 ho hw hjm hc
            go_wp2_with (at_builtin; refine wpList_append_src rfl (.tmp 37) (.tmp 45) 22 rfl w1.heap.size 3 i0 (.int .i64 0) 1 8 Try.underlying22 hi0 hz0 hz1 hz2 rfl (by decide) _ j (iv ((xs.drop kn).take j)) rfl HO.out (some ⟨wr.heap.size, 0, none⟩) 1 1 (iv [nth xs (kn + j)]) rfl T HS.out (iv_one _) ?c3 ?c4 ?c5 ?_)
            case c3 => unfold maxLen; omega
            case c4 => omega
            case c5 => exact (by first | omega | ((try dsimp only); ((repeat (first | rw [hs_setCell] | rw [hs_alloc] | rw [hs_drew] | rw [hs_drewN])) <;> omega)))
            intro v' w2 ho2 hb2
            obtain ⟨a2, c2, rfl⟩ := own_shape ho2
            rw [iv_append, ← hT.out] at ho2
            replace ho2 := hid ho2
            replace hb2 := hid hb2
            clear HO HS hT hcr k2 k3
            go_wp2_with fail
            go_roundw
            case rel => exact ⟨(by repeat (first | ((with_reducible refine Below.setCell ?_ ?_ _); rotate_left; exact (by first | omega | ((try dsimp only); ((repeat (first | rw [hs_setCell] | rw [hs_alloc] | rw [hs_drew] | rw [hs_drewN])) <;> omega)))) | ((with_reducible refine Below.alloc ?_ ?_ _); rotate_left; exact (by first | omega | ((try dsimp only); ((repeat (first | rw [hs_setCell] | rw [hs_alloc] | rw [hs_drew] | rw [hs_drewN])) <;> omega)))) | (with_reducible refine Below.drew ?_) | (with_reducible refine below_drewN ?_ _) | (with_reducible exact Below.refl _ _) | (with_reducible exact hb2.out) | (with_reducible exact hB.out) | ((with_reducible refine Below.trans ?_ (Below.mono hb2.out ?_)); rotate_left; exact (by first | omega | ((try dsimp only); ((repeat (first | rw [hs_setCell] | rw [hs_alloc] | rw [hs_drew] | rw [hs_drewN])) <;> omega)))) | ((with_reducible refine Below.trans ?_ (Below.mono hB.out ?_)); rotate_left; exact (by first | omega | ((try dsimp only); ((repeat (first | rw [hs_setCell] | rw [hs_alloc] | rw [hs_drew] | rw [hs_drewN])) <;> omega)))))), j + 1, a2, c2, by omega, .inr hle, by go_num, rfl, ho2.out⟩
            case measure => simp [intOf]; omega
        · have hje : j = nn := by omega
          subst hje
          by_cases hge : m < kn
          · have hz := hid (y2.out (by omega))
            have hb' : decide ((m : Int) < kn) = true := by simp; omega
            clear h3 y2 y3 ho hw hjm
            go_wp2_with fail
            rw [hz.out]
            go_ret2
            exact ⟨_, rfl, Ints.nil _ _, (by repeat (first | ((with_reducible refine Below.setCell ?_ ?_ _); rotate_left; exact (by first | omega | ((try dsimp only); ((repeat (first | rw [hs_setCell] | rw [hs_alloc] | rw [hs_drew] | rw [hs_drewN])) <;> omega)))) | ((with_reducible refine Below.alloc ?_ ?_ _); rotate_left; exact (by first | omega | ((try dsimp only); ((repeat (first | rw [hs_setCell] | rw [hs_alloc] | rw [hs_drew] | rw [hs_drewN])) <;> omega)))) | (with_reducible refine Below.drew ?_) | (with_reducible refine below_drewN ?_ _) | (with_reducible exact Below.refl _ _) | (with_reducible exact hB.out) | (with_reducible exact Hhb.out) | ((with_reducible refine Below.trans ?_ (Below.mono hB.out ?_)); rotate_left; exact (by first | omega | ((try dsimp only); ((repeat (first | rw [hs_setCell] | rw [hs_alloc] | rw [hs_drew] | rw [hs_drewN])) <;> omega)))) | ((with_reducible refine Below.trans ?_ (Below.mono Hhb.out ?_)); rotate_left; exact (by first | omega | ((try dsimp only); ((repeat (first | rw [hs_setCell] | rw [hs_alloc] | rw [hs_drew] | rw [hs_drewN])) <;> omega))))))⟩
          · have hz := hid (y3.out (by omega))
            have hlen : ((xs.drop kn).take j).length = j := by have := hm.out; simp; omega
            replace hlen := hid hlen
            replace ho := hid ho
            have hb' : decide ((m : Int) < kn) = false := by simp; omega
            clear h3 y2 y3 hw hjm
            go_wp2_with fail
            rw [hz.out]
            go_ret2
            exact ⟨.slice bq j cq, rfl, Ints.own (B := w1.heap.size) (e := 3) (by first | omega | ((try dsimp only); ((repeat (first | rw [hs_setCell] | rw [hs_alloc] | rw [hs_drew] | rw [hs_drewN])) <;> omega))) hlen.out ho.out, (by repeat (first | ((with_reducible refine Below.setCell ?_ ?_ _); rotate_left; exact (by first | omega | ((try dsimp only); ((repeat (first | rw [hs_setCell] | rw [hs_alloc] | rw [hs_drew] | rw [hs_drewN])) <;> omega)))) | ((with_reducible refine Below.alloc ?_ ?_ _); rotate_left; exact (by first | omega | ((try dsimp only); ((repeat (first | rw [hs_setCell] | rw [hs_alloc] | rw [hs_drew] | rw [hs_drewN])) <;> omega)))) | (with_reducible refine Below.drew ?_) | (with_reducible refine below_drewN ?_ _) | (with_reducible exact Below.refl _ _) | (with_reducible exact hB.out) | (with_reducible exact Hhb.out) | ((with_reducible refine Below.trans ?_ (Below.mono hB.out ?_)); rotate_left; exact (by first | omega | ((try dsimp only); ((repeat (first | rw [hs_setCell] | rw [hs_alloc] | rw [hs_drew] | rw [hs_drewN])) <;> omega)))) | ((with_reducible refine Below.trans ?_ (Below.mono Hhb.out ?_)); rotate_left; exact (by first | omega | ((try dsimp only); ((repeat (first | rw [hs_setCell] | rw [hs_alloc] | rw [hs_drew] | rw [hs_drewN])) <;> omega))))))⟩
  · have hrr : Hid (r = ([], ck)) := hid (by rw [← hr]; simp [S.readZone, hck, c1])
    have hck := hid hck
    clear hr h3 h4
    go_enter Try.func31, Try.ntmps31
    go_wp2_with fail
    refine (ref_checkZone F _ _ ⟨_, xs⟩ (ZoneV.mk (hi.below hb0))).mono ?_
    rintro e w1 ⟨rfl, hb⟩
    rw [hck.out]
    have k4_0_0 := box_cell (b := w.heap.size) (o := 0) (v := .int .i64 st) hb (by first | assumption | go_simp)
    have f4_0_0 := box_free (b := w.heap.size) (o := 0) (v := .int .i64 st) hb (by go_simp) (by go_simp)
    have k4_0_1 := box_cell (b := w.heap.size) (o := 1) (v := .slice a m cap) hb (by first | assumption | go_simp)
    have f4_0_1 := box_free (b := w.heap.size) (o := 1) (v := .slice a m cap) hb (by go_simp) (by go_simp)
    have z4 := hb.size
    try simp at z4
    have Hhb := hid hb
    clear hb 
    go_wp2_with fail
    rw [hrr.out]
    go_ret2
    exact ⟨_, rfl, Ints.nil _ _, (by repeat (first | ((with_reducible refine Below.setCell ?_ ?_ _); rotate_left; exact (by first | omega | ((try dsimp only); ((repeat (first | rw [hs_setCell] | rw [hs_alloc] | rw [hs_drew] | rw [hs_drewN])) <;> omega)))) | ((with_reducible refine Below.alloc ?_ ?_ _); rotate_left; exact (by first | omega | ((try dsimp only); ((repeat (first | rw [hs_setCell] | rw [hs_alloc] | rw [hs_drew] | rw [hs_drewN])) <;> omega)))) | (with_reducible refine Below.drew ?_) | (with_reducible refine below_drewN ?_ _) | (with_reducible exact Below.refl _ _) | (with_reducible exact Hhb.out) | ((with_reducible refine Below.trans ?_ (Below.mono Hhb.out ?_)); rotate_left; exact (by first | omega | ((try dsimp only); ((repeat (first | rw [hs_setCell] | rw [hs_alloc] | rw [hs_drew] | rw [hs_drewN])) <;> omega))))))⟩

end Go.Proofs.Ythliojembgdjjaa
