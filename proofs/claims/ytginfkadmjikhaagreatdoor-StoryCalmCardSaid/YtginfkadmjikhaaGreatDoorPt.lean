
/- Pt: law.StoryCalm. -/
import Derived.Test.YtginfkadmjikhaaGreatDoorPs
namespace Go.Proofs.YtginfkadmjikhaaGreatDoor.E
open Go.RowKit Go.Proofs
set_option linter.unusedVariables false
set_option linter.unusedSimpArgs false
set_option maxRecDepth 100000
set_option maxHeartbeats 2000000
def CalmAt (h : Heap) (p k n : Nat) : Prop := ∃ (w : S.World) (l : List S.Rec), h p = some ⟨37, 10, [worldC true w]⟩ ∧ Once w l ∧ l.length ≤ n + k ∧ w.mail = [] ∧ w.up = true ∧ w.hand.length = 3 ∧ ∀ (j : Nat) (x : S.Hand), j < k → w.hand[j]? = some x → x.waits = false
theorem law_StoryCalm (l : List S.Hap) : C Tryz.prog 12 [.lst false 8 (l.map (hapC false))] (Bool' true) [] := by
  have cp := law_played l 52 (fun w L _ => calm_1 w)
  obtain ⟨L, ho⟩ := play_once (xs := l.take 90) once_new
  obtain ⟨w0, hw0⟩ : ∃ W, playFrom S.World.new (l.take 90) = W := ⟨_, rfl⟩
  rw [hw0] at cp ho
  replace cp := hid cp
  obtain ⟨u, hu, hou, hup⟩ : ∃ u, (if (S.doWorld w0 ⟨7, 0, 0, S.Cmd.zero⟩).2 = 0 then (S.doWorld w0 ⟨7, 0, 0, S.Cmd.zero⟩).1 else w0) = u ∧ Once u L ∧ u.up = true := by
    rcases calm_boot ho with ⟨b1, b2⟩ | ⟨v, b1, b2, b3, b4, b5⟩
    · exact ⟨w0, if_neg b2, ho, b1⟩
    · exact ⟨v, by rw [b1]; rfl, b2, b3⟩
  replace hou := hid hou
  clear ho hw0
  refine C_inline [] Tryz.func12 (fun _ _ => by kernel_rfl) rfl (by kernel_rfl) (by rfl) (by decide) (by rfl) (by rfl) (by rfl) ?_
  simp -dsimp -implicitDefEqProofs [-getElem?_pos, -List.map_append, -List.map_set, List.getElem?_cons_zero, List.getElem?_cons_succ]
  refine call_CC (cp.out) ?_
  simp -dsimp -implicitDefEqProofs [-getElem?_pos, -List.map_append, -List.map_set, List.getElem?_cons_zero, List.getElem?_cons_succ]
  refine call_CC (law_told) ?_
  simp -dsimp -implicitDefEqProofs [-getElem?_pos, -List.map_append, -List.map_set, List.getElem?_cons_zero, List.getElem?_cons_succ]
  refine call_CSx ((calm_do w0 ⟨7, 0, 0, S.Cmd.zero⟩ 24 84 _ (by rw [upd_ne _ _ (by omega), upd_ne _ _ (by omega), upd_same]) (by omega)).args (.cons (.agg (sub_hap 7 0)) (.cons (.refl _) (.nil _)))) ?_
  rw [hu]
  rintro h1 n1 r1 ⟨rfl, hn1, hp1, hf1⟩
  have hq1 : h1 64 = some ⟨99, 1, [[.fn 53 [.ptr 24 10 0 0]]]⟩ := (hf1 64 (by omega) (by omega)).trans (upd_same _ _ _)
  clear hf1 hu
  generalize decide ((S.doWorld w0 ⟨7, 0, 0, S.Cmd.zero⟩).2 = 0) = b0
  obtain ⟨n2, rfl⟩ : ∃ n2, n1 = n2 + 1 := ⟨n1 - 1, by omega⟩
  obtain ⟨H, d, up, hand, mail⟩ := u
  simp only at hup
  subst hup
  simp -dsimp -implicitDefEqProofs [-getElem?_pos, -List.map_append, -List.map_set, List.getElem?_cons_zero, List.getElem?_cons_succ, hp1, hq1]
  refine loop_ghost mail.length (fun k h n t => h 24 = some ⟨37, 10, [worldC true ⟨H, d, true, hand, mail.drop k⟩]⟩ ∧ h 64 = some ⟨99, 1, [[.fn 53 [.ptr 24 10 0 0]]]⟩ ∧ Once ⟨H, d, true, hand, mail.drop k⟩ L ∧ 84 ≤ n) _ rfl ⟨hp1, hq1, hou.out, by (try dsimp only); omega⟩ ?_ ?_
  · rintro k t h n hk hs ⟨h24, h64, ho, hn⟩
    obtain ⟨n3, rfl⟩ : ∃ n3, n = n3 + 1 := ⟨n - 1, by omega⟩
    obtain ⟨m, hm⟩ : ∃ m, mail[k]? = some m := ⟨mail[k], by simp⟩
    have hd := drop_cons hm
    obtain ⟨ms, hms⟩ : ∃ ms, mail.drop (k + 1) = ms := ⟨_, rfl⟩
    rw [hms] at hd
    rw [hd] at h24 ho
    obtain ⟨q1, q2⟩ := calm_lose (m := m) (ms := ms) ho rfl
    have m1 : decide (0 < (m :: ms).length) = true := by simp
    have i24 : 24 < n3 + 1 := by omega
    have i64 : 64 < n3 + 1 := by omega
    replace q2 := hid q2
    clear hou ho hm
    have e3 := hs 3 rfl
    have e5 := hs 5 rfl
    have e6 := hs 6 rfl
    clear hs
    simp -dsimp -implicitDefEqProofs at e3 e5 e6
    replace hk := hid hk
    simp -dsimp -implicitDefEqProofs [-getElem?_pos, -List.map_append, -List.map_set, List.getElem?_cons_zero, List.getElem?_cons_succ, e3, e5, e6, h24, h64, m1, far i24, far i64]
    refine call_CSx ((calm_do ⟨H, d, true, hand, m :: ms⟩ ⟨5, 0, 0, S.Cmd.zero⟩ 24 _ _ (by first | exact h24 | (repeat (first | exact h24 | rw [upd_ne _ _ (by omega)]))) (by omega)).args (.cons (.agg (sub_hap 5 0)) (.cons (.refl _) (.nil _)))) ?_
    rw [q1]
    rintro h' n' z ⟨rfl, hn', hp', hfr'⟩
    simp only [if_true] at hp'
    obtain ⟨n4, rfl⟩ : ∃ n4, n' = n4 + 1 := ⟨n' - 1, by omega⟩
    have hq' := (hfr' 64 (by omega) (by omega)).trans h64
    clear hfr' h24 h64
    simp -dsimp -implicitDefEqProofs [-getElem?_pos, -List.map_append, -List.map_set, List.getElem?_cons_zero, List.getElem?_cons_succ, e3, e5, e6]
    exact ⟨hms ▸ hp', hq', hms ▸ q2.out, by omega⟩
  · rintro t h n hs ⟨h24, h64, ho, hn⟩
    obtain ⟨n3, rfl⟩ : ∃ n3, n = n3 + 1 := ⟨n - 1, by omega⟩
    rw [List.drop_length] at h24 ho
    have cd := hid (doneW_eq (reach_done ho.reach))
    clear hou
    have h80 := ho.reach.ok.l80
    have h3 := ho.reach.ok.hand3
    have i24 : 24 < n3 + 1 := by omega
    have i64 : 64 < n3 + 1 := by omega
    have hw0 : IntKind.i64.wrap ((L.length : Int) + 3) = (L.length : Int) + 3 := wrap_ok (by omega)
    simp only at h3
    have ho' := hid ho
    clear ho
    have e3 := hs 3 rfl
    have e5 := hs 5 rfl
    have e6 := hs 6 rfl
    clear hs
    simp -dsimp -implicitDefEqProofs at e3 e5 e6
    simp -dsimp -implicitDefEqProofs [-getElem?_pos, -List.map_append, -List.map_set, List.getElem?_cons_zero, List.getElem?_cons_succ, e3, e5, e6, h24, h64, far i24, far i64]
    refine call_CC (cd.out) ?_
    by_cases hL : 80 < L.length + 3
    · have g1 : decide ((80 : Int) < (L.length : Int) + 3) = true := by simp; omega
      simp -dsimp -implicitDefEqProofs [-getElem?_pos, -List.map_append, -List.map_set, List.getElem?_cons_zero, List.getElem?_cons_succ, e3, e5, e6, h24, h64, hw0, g1]
      exact ends_bool rfl
    have g1 : decide ((80 : Int) < (L.length : Int) + 3) = false := by simp; omega
    have h3' := hid h3
    clear h3
    simp -dsimp -implicitDefEqProofs [-getElem?_pos, -List.map_append, -List.map_set, List.getElem?_cons_zero, List.getElem?_cons_succ, e3, e5, e6, h24, h64, hw0, g1, far i24, far i64]
    refine loop_count 52 hand.length (fun k h n t => CalmAt h 24 k L.length ∧ h 64 = some ⟨99, 1, [[.fn 53 [.ptr 24 10 0 0]]]⟩ ∧ 84 ≤ n) _ rfl (by rfl) ⟨⟨_, L, by (try dsimp only); repeat (first | exact h24 | rw [upd_ne _ _ (by omega)]), ho'.out, by omega, rfl, rfl, h3'.out, fun j x hj => by omega⟩, by (try dsimp only); repeat (first | exact h64 | rw [upd_ne _ _ (by omega)]), by (try dsimp only); omega⟩ ?_ ?_
    · have f3 := e3
      have f5 := e5
      have f6 := e6
      clear h24 h64 ho'
      rintro k t h n hk hci hs ⟨⟨w, l', h24, ho, hle, hmail, hup, h3w, hno⟩, h64, hn⟩
      obtain ⟨n4, rfl⟩ : ∃ n4, n = n4 + 1 := ⟨n - 1, by omega⟩
      have hk3 : k < 3 := by have := h3'.out; omega
      have hw : IntKind.i64.wrap ((k : Int) + 1) = (k : Int) + 1 := wrap_ok (by omega)
      have hk' : decide (k < hand.length) = true := by simp [hk]
      obtain ⟨x, hx⟩ : ∃ x, w.hand[k]? = some x := ⟨w.hand[k]'(by omega), by simp⟩
      obtain ⟨H', d', up', hand', mail'⟩ := w
      simp only at hmail hup h3w hno hx
      subst hmail hup
      have j24 : 24 < n4 + 1 := by omega
      have j64 : 64 < n4 + 1 := by omega
      have hd0 : decide ((k : Int) < 0) = false := by simp
      clear hk
      have e3 := hs 3 rfl
      have e5 := hs 5 rfl
      have e6 := hs 6 rfl
      have e51 := hs 51 rfl
      clear hs
      simp -dsimp -implicitDefEqProofs at e3 e5 e6 e51
      by_cases hxw : x.waits = true
      · obtain ⟨w1, w2, w3, l2, q1, m1, q2, m2, q3, m3, ho3, hle3, up3, zz, zw, hh⟩ := calm_again ho rfl rfl hk3 hx hxw (by omega)
        replace ho := hid ho
        replace ho3 := hid ho3
        replace hno := hid hno
        replace q2 := hid q2
        replace q3 := hid q3
        replace m1 := hid m1
        replace m2 := hid m2
        replace m3 := hid m3
        replace up3 := hid up3
        replace hh := hid hh
        simp -dsimp -implicitDefEqProofs [-getElem?_pos, -List.map_append, -List.map_set, List.getElem?_cons_zero, List.getElem?_cons_succ, e3, e5, e6, e51, f3, f5, f6, hci, hk', h24, h64, hx, hxw, far j24, far j64]
        refine call_CSx ((calm_do ⟨H', d', true, hand', []⟩ ⟨2, k, 0, S.Cmd.zero⟩ 24 _ _ (by first | exact h24 | (repeat (first | exact h24 | rw [upd_ne _ _ (by omega)]))) (by omega)).args (.cons (.agg (sub_hap 2 k)) (.cons (.refl _) (.nil _)))) ?_
        rw [q1]
        rintro h2 n5 z2 ⟨rfl, hn2, hp2, hf2⟩
        simp only [if_true] at hp2
        obtain ⟨n6, rfl⟩ : ∃ n6, n5 = n6 + 1 := ⟨n5 - 1, by omega⟩
        have hq2 := (hf2 64 (by omega) (by omega)).trans h64
        clear hf2 h24 h64 q1
        simp -dsimp -implicitDefEqProofs [-getElem?_pos, -List.map_append, -List.map_set, List.getElem?_cons_zero, List.getElem?_cons_succ, e3, e5, e6, e51, f3, f5, f6]
        refine call_CSx (calm_drain 2 (fun j => if j = 0 then w1 else if j = 1 then w2 else w3) 24 64 _ _ hp2 hq2 (by omega) (by omega) (by omega) (fun j hj => by
          rcases (by omega : j = 0 ∨ j = 1) with rfl | rfl
          · exact ⟨fun g => by have := m1.out; rw [show w1.mail = [] from g] at this; simp at this, q2.out⟩
          · exact ⟨fun g => by have := m2.out; rw [show w2.mail = [] from g] at this; simp at this, q3.out⟩) m3.out) ?_
        rintro h4 n7 z4 ⟨rfl, hn4, hp4, hf4⟩
        obtain ⟨n8, rfl⟩ : ∃ n8, n7 = n8 + 1 := ⟨n7 - 1, by omega⟩
        have hq4 := (hf4 64 (by omega) (by omega)).trans hq2
        clear hf4 hp2 hq2
        simp -dsimp -implicitDefEqProofs [-getElem?_pos, -List.map_append, -List.map_set, List.getElem?_cons_zero, List.getElem?_cons_succ, e3, e5, e6, e51, f3, f5, f6, hci, hw]
        exact ⟨⟨w3, l2, hp4, ho3.out, by omega, m3.out, up3.out, by rw [hh.out]; simp [h3w], fun j y hj hy => by
          rw [hh.out, List.getElem?_set] at hy
          by_cases g : k = j
          · subst g
            rw [if_pos rfl] at hy
            split at hy
            · cases hy; exact zw
            · cases hy
          · rw [if_neg g] at hy
            exact hno.out j y (by omega) hy⟩, hq4, by omega⟩
      · have hxw : x.waits = false := by simpa using hxw
        have hno' := hid hno
        replace ho := hid ho
        clear hno
        simp -dsimp -implicitDefEqProofs [-getElem?_pos, -List.map_append, -List.map_set, List.getElem?_cons_zero, List.getElem?_cons_succ, e3, e5, e6, e51, f3, f5, f6, hci, hk', h24, h64, hx, hxw, hw, far j24, far j64]
        exact ⟨_, l', h24, ho.out, by omega, rfl, rfl, h3w, fun j y hj hy => by
          rcases Nat.lt_or_ge j k with g | g
          · exact hno'.out j y g hy
          · obtain rfl : j = k := by omega
            simp only at hy
            rw [hx] at hy
            cases hy
            exact hxw⟩
    · have f3 := e3
      have f5 := e5
      have f6 := e6
      clear h24 h64 ho'
      rintro t h n hci hs ⟨⟨w, l', h24, ho, hle, hmail, hup, h3w, hno⟩, h64, hn⟩
      obtain ⟨n4, rfl⟩ : ∃ n4, n = n4 + 1 := ⟨n - 1, by omega⟩
      have cc := hid (calm_contains w.hand (by omega) (fun x hx => by
        obtain ⟨j, hj⟩ := List.getElem?_of_mem hx
        exact hno j x (by have := (List.getElem?_eq_some_iff.1 hj).1; have := h3'.out; omega) hj))
      obtain ⟨H', d', up', hand', mail'⟩ := w
      clear ho hno
      have e3 := hs 3 rfl
      have e5 := hs 5 rfl
      have e6 := hs 6 rfl
      have e51 := hs 51 rfl
      clear hs
      simp -dsimp -implicitDefEqProofs at e3 e5 e6 e51
      simp -dsimp -implicitDefEqProofs [-getElem?_pos, -List.map_append, -List.map_set, List.getElem?_cons_zero, List.getElem?_cons_succ, e3, e5, e6, e51, f3, f5, f6, hci, h24, h64]
      refine call_CC (cc.out) ?_
      simp -dsimp -implicitDefEqProofs [-getElem?_pos, -List.map_append, -List.map_set, List.getElem?_cons_zero, List.getElem?_cons_succ]
      exact ends_bool rfl
end Go.Proofs.YtginfkadmjikhaaGreatDoor.E
