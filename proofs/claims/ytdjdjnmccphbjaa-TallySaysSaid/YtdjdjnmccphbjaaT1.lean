/- T1: Ta: tally.Owners. Tb: who wrote what, in plain data. Tc: law.owned. -/
import Derived.Test.YtdjdjnmccphbjaaK1
import Derived.Test.YtdjdjnmccphbjaaX4
import Derived.Test.YtdjdjnmccphbjaaOw
namespace Go.Proofs.Ytdjdjnmccphbjaa.E
open Go.RowKit Go.Proofs
set_option maxRecDepth 100000
set_option maxHeartbeats 1000000
set_option linter.unusedSimpArgs false
set_option linter.unusedVariables false

theorem tally_Owners_bad (l : List S.Rec) (k : Int) (hb : 80 < l.length ∨ k < 0 ∨ 4 ≤ k) : C Try.prog 73 [.lst false 7 (l.map (recC false)), Int' k] (.tup [.lst true 1 (I (S.owners l k).1), Int' (S.owners l k).2]) [] := by
  unfold S.owners
  by_cases hl : 80 < l.length
  · rw [if_pos hl]
    have hl' : decide ((80 : Int) < (l.length : Int)) = true := by simp; omega
    refine C_inline [] Try.func73 (fun _ _ => by kernel_rfl) rfl (by kernel_rfl) (by rfl) (by decide) (by rfl) (by rfl) (by rfl) ?_
    simp -dsimp -implicitDefEqProofs [-getElem?_pos, -List.map_append, -List.map_set, List.getElem?_cons_zero, List.getElem?_cons_succ, hl']
    exact ends_le outL rfl
  have hl' : decide ((80 : Int) < (l.length : Int)) = false := by simp; omega
  rw [if_neg hl, if_pos (by omega)]
  have cs : decide (k < 0) = true ∨ (decide (k < 0) = false ∧ decide (4 ≤ k) = true) := by simp; omega
  clear hb hl
  rcases cs with c1 | ⟨c1, c2⟩
  · refine C_inline [] Try.func73 (fun _ _ => by kernel_rfl) rfl (by kernel_rfl) (by rfl) (by decide) (by rfl) (by rfl) (by rfl) ?_
    simp -dsimp -implicitDefEqProofs [-getElem?_pos, -List.map_append, -List.map_set, List.getElem?_cons_zero, List.getElem?_cons_succ, hl', c1]
    exact ends_le outL rfl
  · refine C_inline [] Try.func73 (fun _ _ => by kernel_rfl) rfl (by kernel_rfl) (by rfl) (by decide) (by rfl) (by rfl) (by rfl) ?_
    simp -dsimp -implicitDefEqProofs [-getElem?_pos, -List.map_append, -List.map_set, List.getElem?_cons_zero, List.getElem?_cons_succ, hl', c1, c2]
    exact ends_le outL rfl

/-- rows at the outer loop's head: a hall, and what was found; the records that are left give q -/
def TallyAt (s : Nat) (h : Heap) (v : AV) (k : Nat) (l : List S.Rec) (q : List Int × Int) : Prop :=
  ∃ (H : S.Hall) (out : List Int), h 48 = some ⟨94, 5, [hallC true H]⟩ ∧ OwnIs [48] s h v out ∧ out.length ≤ 8 ∧ S.ownersFrom H k out l = q

theorem tally_Owners_ok (l : List S.Rec) (k : Nat) (hl : l.length ≤ 80) (hk4 : k < 4) : C Try.prog 73 [.lst false 7 (l.map (recC false)), Int' k] (.tup [.lst true 1 (I (S.owners l k).1), Int' (S.owners l k).2]) [] := by
  obtain ⟨q, hq⟩ : ∃ q, S.owners l k = q := ⟨_, rfl⟩
  rw [hq]
  unfold S.owners at hq
  rw [if_neg (by omega), if_neg (by omega)] at hq
  simp only [Int.toNat_natCast] at hq
  have hl' : decide ((80 : Int) < (l.length : Int)) = false := by simp; omega
  have k1 : decide ((k : Int) < 0) = false := by simp
  have k2 : decide ((4 : Int) ≤ (k : Int)) = false := by simp; omega
  replace hl := hid hl
  replace hq := hid hq
  refine C_inline [] Try.func73 (fun _ _ => by kernel_rfl) rfl (by kernel_rfl) (by rfl) (by decide) (by rfl) (by rfl) (by rfl) ?_
  simp -dsimp -implicitDefEqProofs [-getElem?_pos, -List.map_append, -List.map_set, List.getElem?_cons_zero, List.getElem?_cons_succ, hl', k1, k2]
  refine call_CC (hall_New) ?_
  simp -dsimp -implicitDefEqProofs [-getElem?_pos, -List.map_append, -List.map_set, List.getElem?_cons_zero, List.getElem?_cons_succ]
  refine loop_count 26 l.length (fun j h m t => TallyAt m h (t 7) k (l.drop j) q ∧ ∃ d, m = d + 72) _ rfl (by rfl) ⟨⟨S.Hall.new, [], rfl, .inl ⟨rfl, rfl⟩, by simp, hq.out⟩, ⟨_, rfl⟩⟩ ?_ ?_
  · rintro j t h m hj hci hs ⟨⟨H, out, h48, hown, ho8, hf⟩, d, rfl⟩
    have hw : IntKind.i64.wrap ((j : Int) + 1) = (j : Int) + 1 := wrap_ok (by have := hl.out; omega)
    obtain ⟨x, hx⟩ : ∃ x, l[j]? = some x := ⟨l[j], by simp⟩
    have hj' : decide (j < l.length) = true := by simp [hj]
    have e1 := hs 1 rfl
    have e6 := hs 6 rfl
    have e24 := hs 24 rfl
    have e25 := hs 25 rfl
    clear hs
    simp -dsimp -implicitDefEqProofs at e1 e6 e24 e25
    replace hj := hid hj
    rw [drop_cons_get hx, S.ownersFrom] at hf
    obtain ⟨w, hw2⟩ : ∃ w, S.nextHall H x = w := ⟨_, rfl⟩
    have cn := hid (next_eq hw2)
    have hgood : w.2.2 = 0 → S.checkHall w.1 = 0 := fun h0 => by
      have := (next_of (h := H) (r := x) (by rw [hw2]; exact h0)).2.ok
      rwa [hw2] at this
    rw [hw2] at hf
    obtain ⟨m', a, e⟩ := w
    simp only at hf hgood
    clear hw2
    by_cases he : e = 0
    rotate_left
    · rw [if_pos he] at hf
      subst hf
      clear hgood
      simp -dsimp -implicitDefEqProofs [-getElem?_pos, -List.map_append, -List.map_set, List.getElem?_cons_zero, List.getElem?_cons_succ, e1, e6, e24, e25, hci, hj', hx, h48]
      refine call_CC (cn.out) ?_
      simp -dsimp -implicitDefEqProofs [-getElem?_pos, -List.map_append, -List.map_set, List.getElem?_cons_zero, List.getElem?_cons_succ, e1, e6, e24, e25, h48, he]
      exact ends_le outL rfl
    rw [if_neg (by simp [he])] at hf
    subst he
    have hH := hgood rfl
    clear hgood
    obtain ⟨sm, hzc, hbc⟩ := small_of (checkHall_parts hH).1
    obtain ⟨z, hz⟩ : ∃ z, m'.d.zs[k]? = some z := ⟨m'.d.zs[k]'(by have := sm.n; omega), by simp⟩
    have hz8 := sm.z z (List.mem_of_getElem? hz)
    rw [getD_of hz] at hf
    have kk : decide (k < m'.d.zs.length) = true := by have := sm.n; simp; omega
    clear sm hzc hbc hH
    replace hf := hid hf
    replace hz8 := hid hz8
    replace ho8 := hid ho8
    simp -dsimp -implicitDefEqProofs [-getElem?_pos, -List.map_append, -List.map_set, List.getElem?_cons_zero, List.getElem?_cons_succ, e1, e6, e24, e25, hci, hj', hx, h48]
    refine call_CC (cn.out) ?_
    simp -dsimp -implicitDefEqProofs [-getElem?_pos, -List.map_append, -List.map_set, List.getElem?_cons_zero, List.getElem?_cons_succ, e1, e6, e24, e25, hci, hj', hx, h48, hz]
    obtain ⟨ρ, hρ⟩ : ∃ ρ, ρ = d + 72 + 4 + 8 := ⟨_, rfl⟩
    refine loop_ghost (z.d.length - out.length) (fun i g s u => OwnIs [48, ρ] s g (u 7) (out ++ List.replicate i x.who) ∧ g 48 = some ⟨94, 5, [hallC true m']⟩ ∧ g ρ = some ⟨96, 7, [recC false x]⟩ ∧ ρ < s ∧ 48 < s) _ (by rfl) ?_ ?_ ?_
    · refine ⟨?_, by simp -dsimp -implicitDefEqProofs, by subst hρ; simp -dsimp -implicitDefEqProofs, by subst hρ; simp -dsimp -implicitDefEqProofs, by simp -dsimp -implicitDefEqProofs⟩
      simp only [List.replicate_zero, List.append_nil]
      refine hown.mono (fun i hi hn => ?_) (by omega) (fun x hx => ?_)
      · have n48 : ¬ i = 48 := by simpa using hn
        simp -dsimp -implicitDefEqProofs [n48, ap0 hi, ap1 hi, ap2 hi, ap3 hi, ap4 hi, ap5 hi, ap6 hi, ap7 hi, ap8 hi, ap9 hi, ap10 hi, ap11 hi, ap12 hi, ap13 hi, ap14 hi, ap15 hi, ap16 hi, ap17 hi]
      · simp at hx; rcases hx with rfl | rfl
        · exact .inl (by simp)
        · exact .inr (by omega)
    · rintro i u g s hi hs ⟨hown2, g48, gρ, hρs, h48s⟩
      have e9 := hs 9 rfl
      have e13 := hs 13 rfl
      clear hs
      simp -dsimp -implicitDefEqProofs at e9 e13
      rw [← hρ] at e9
      have hlt := hid (show out.length + i < z.d.length by omega)
      obtain ⟨xs, hxs⟩ : ∃ xs, out ++ List.replicate i x.who = xs := ⟨_, rfl⟩
      have hx2 : out ++ List.replicate (i + 1) x.who = xs ++ [x.who] := by rw [List.replicate_succ', ← List.append_assoc, hxs]
      have hxl : xs.length = out.length + i := by rw [← hxs]; simp
      rw [hx2]
      rw [hxs] at hown2
      clear hxs hx2
      rcases hown2 with ⟨u7, rfl⟩ | ⟨o, ks, u7, hno, hos, go, htk, hkl⟩
      · have hz0 : decide (0 < z.d.length) = true := by have := hlt.out; simp; omega
        simp -dsimp -implicitDefEqProofs [-getElem?_pos, -List.map_append, -List.map_set, List.getElem?_cons_zero, List.getElem?_cons_succ, e9, e13, u7, hz0, gρ, g48, ap0 hρs, ap1 hρs, ap2 hρs, ap3 hρs, ap4 hρs, ap5 hρs, ap6 hρs, ap7 hρs, ap8 hρs, ap9 hρs, ap10 hρs, ap11 hρs, ap12 hρs, ap13 hρs, ap14 hρs, ap15 hρs, ap16 hρs, ap17 hρs, ap0 h48s, ap1 h48s, ap2 h48s, ap3 h48s, ap4 h48s, ap5 h48s, ap6 h48s, ap7 h48s, ap8 h48s, ap9 h48s, ap10 h48s, ap11 h48s, ap12 h48s, ap13 h48s, ap14 h48s, ap15 h48s, ap16 h48s, ap17 h48s]
        exact ⟨.inr ⟨_, [x.who], rfl, by simp; omega, by omega, by simp -dsimp -implicitDefEqProofs, rfl, by simp⟩, by omega, by omega⟩
      · have hz0 : decide (xs.length < z.d.length) = true := by have := hlt.out; simp; omega
        have hz1 : decide (xs.length ≤ ks.length) = true := by simp; exact hkl
        have hz2 : decide (xs.length ≤ 100000000) = true := by have := hlt.out; have := hz8.out; simp; omega
        have n48 : ¬ 48 = o := fun e => hno (by simp [e])
        have nρ : ¬ ρ = o := fun e => hno (by simp [e])
        replace hlt := hid hlt.out
        simp -dsimp -implicitDefEqProofs [-getElem?_pos, -List.map_append, -List.map_set, List.getElem?_cons_zero, List.getElem?_cons_succ, e9, e13, u7, hz0, hz1, hz2, gρ, g48, go, n48, nρ, htk, ap0 hρs, ap1 hρs, ap2 hρs, ap3 hρs, ap4 hρs, ap5 hρs, ap6 hρs, ap7 hρs, ap8 hρs, ap9 hρs, ap10 hρs, ap11 hρs, ap12 hρs, ap13 hρs, ap14 hρs, ap15 hρs, ap16 hρs, ap17 hρs, ap0 h48s, ap1 h48s, ap2 h48s, ap3 h48s, ap4 h48s, ap5 h48s, ap6 h48s, ap7 h48s, ap8 h48s, ap9 h48s, ap10 h48s, ap11 h48s, ap12 h48s, ap13 h48s, ap14 h48s, ap15 h48s, ap16 h48s, ap17 h48s, ap0 hos, ap1 hos, ap2 hos, ap3 hos, ap4 hos, ap5 hos, ap6 hos, ap7 hos, ap8 hos, ap9 hos, ap10 hos, ap11 hos, ap12 hos, ap13 hos, ap14 hos, ap15 hos, ap16 hos, ap17 hos]
        exact ⟨.inr ⟨s + 16 + 16, xs ++ [x.who], by simp, by simp; omega, by omega, by rw [← I_app]; simp -dsimp -implicitDefEqProofs [I], List.take_of_length_le (by simp), by simp⟩, by omega, by omega⟩
    · rintro u g s hs ⟨hown2, g48, gρ, hρs, h48s⟩
      have e6 := hs 6 rfl
      have e9 := hs 9 rfl
      have e13 := hs 13 rfl
      have e24 := hs 24 rfl
      have e25 := hs 25 rfl
      have e26 := hs 26 rfl
      have e1 := hs 1 rfl
      clear hs
      simp -dsimp -implicitDefEqProofs at e6 e9 e13 e24 e25 e26 e1
      obtain ⟨xs, hxs⟩ : ∃ xs, out ++ List.replicate (z.d.length - out.length) x.who = xs := ⟨_, rfl⟩
      have hxl : z.d.length ≤ xs.length := by rw [← hxs]; simp; omega
      have hxt : (xs.take z.d.length).length = z.d.length := by simp; omega
      have hf2 := hf.out
      rw [hxs] at hown2 hf2
      clear hf hxs
      replace hf2 := hid hf2
      have hz0 : decide (xs.length < z.d.length) = false := by simp; omega
      rcases hown2 with ⟨u7, rfl⟩ | ⟨o, ks, u7, hno, hos, go, htk, hkl⟩
      · have hzz : z.d.length = 0 := by simpa using hxl
        replace hxl := hid hxl
        replace hxt := hid hxt
        simp -dsimp -implicitDefEqProofs [-getElem?_pos, -List.map_append, -List.map_set, List.getElem?_cons_zero, List.getElem?_cons_succ, e6, e9, e13, e24, e25, e26, hci, e1, u7, hzz, g48, gρ, hw]
        exact ⟨⟨m', [], g48, .inl ⟨rfl, rfl⟩, by simp, by simpa using hf2.out⟩, ⟨s - 32, by omega⟩⟩
      · have hz1 : decide (z.d.length ≤ xs.length) = true := by simp; exact hxl
        have n48 : ¬ 48 = o := fun e => hno (by simp [e])
        replace hxl := hid hxl
        replace hxt := hid hxt
        simp -dsimp -implicitDefEqProofs [-getElem?_pos, -List.map_append, -List.map_set, List.getElem?_cons_zero, List.getElem?_cons_succ, e6, e9, e13, e24, e25, e26, hci, e1, u7, hz0, hz1, g48, gρ, go, hw]
        refine ⟨⟨m', xs.take z.d.length, g48, .inr ⟨o, ks, by rw [hxt.out], fun hx => hno (by simp at hx; simp [hx]), by omega, go, ?_, by rw [hxt.out]; have := hxl.out; omega⟩, by rw [hxt.out]; exact hz8.out, hf2.out⟩, ⟨s - 32, by omega⟩⟩
        rw [hxt.out]
        conv => rhs; rw [← htk]
        rw [List.take_take, Nat.min_eq_left hxl.out]
  · rintro t h m hci hs ⟨⟨H, out, h48, hown, ho8, hf⟩, d, rfl⟩
    have e1 := hs 1 rfl
    have e6 := hs 6 rfl
    have e24 := hs 24 rfl
    have e25 := hs 25 rfl
    clear hs
    simp -dsimp -implicitDefEqProofs at e1 e6 e24 e25
    rw [List.drop_length, S.ownersFrom] at hf
    subst hf
    clear hq
    simp -dsimp -implicitDefEqProofs [-getElem?_pos, -List.map_append, -List.map_set, List.getElem?_cons_zero, List.getElem?_cons_succ, e1, e6, e24, e25, hci, h48]
    obtain ⟨v', g1, g2⟩ := hown.out
    exact ends_le (.cons g1 g2 (.nil _)) rfl

end Go.Proofs.Ytdjdjnmccphbjaa.E
namespace Go.Proofs.Ytdjdjnmccphbjaa.E
open Go.RowKit Go.Proofs
set_option maxRecDepth 100000
set_option maxHeartbeats 1000000
set_option linter.unusedSimpArgs false
set_option linter.unusedVariables false

theorem grow_len (out : List Int) (w : Int) (n : Nat) : ((out ++ List.replicate (n - out.length) w).take n).length = n := by
  simp; omega

/-- who wrote is told as long as the records are replayed, and of as many blocks as are written -/
theorem owners_hall : ∀ (l : List S.Rec) (h : S.Hall) (k : Nat) (out a : List Int), S.checkHall h = 0 → out.length = (h.d.zs.getD k S.Zone.zero).d.length → S.ownersFrom h k out l = (a, 0) →
    ∃ m : S.Hall, S.replayFrom h l = (m, 0) ∧ S.checkHall m = 0 ∧ a.length = (m.d.zs.getD k S.Zone.zero).d.length
  | [], h, k, out, a, hh, ho, e => by
    rw [S.ownersFrom] at e
    cases e
    exact ⟨h, rfl, hh, ho⟩
  | r :: l, h, k, out, a, hh, ho, e => by
    rw [S.ownersFrom] at e
    by_cases h0 : (S.nextHall h r).2.2 = 0
    · rw [if_neg (by simp [h0])] at e
      obtain ⟨m, g1, g2, g3⟩ := owners_hall l _ k _ a (next_of h0).2.ok (grow_len ..) e
      refine ⟨m, ?_, g2, g3⟩
      rw [S.replayFrom, if_neg (by simp [h0])]
      exact g1
    · rw [if_pos h0] at e
      exact absurd (congrArg Prod.snd e) h0

/-- a zone's blocks behind a record that doesn't reset it are no fewer -/
theorem next_grows {h : S.Hall} {r : S.Rec} {k : Nat} (e : (S.nextHall h r).2.2 = 0) (hr : ¬ (r.c.kind = 4 ∧ r.c.z = k)) :
    (h.d.zs.getD k S.Zone.zero).d.length ≤ ((S.nextHall h r).1.d.zs.getD k S.Zone.zero).d.length := by
  obtain ⟨-, nx⟩ := next_of e
  generalize (S.nextHall h r).1 = m at nx
  generalize (S.nextHall h r).2.1 = a at nx
  rcases nx.did with ⟨rfl, -⟩ | ⟨-, did, -⟩
  · exact Nat.le_refl _
  · by_cases h8 : 8 ≤ r.c.kind
    · rw [(did.zones h8).1]
      exact Nat.le_refl _
    by_cases ha : a.e = 0
    · have lf := did.left ha (by omega)
      obtain ⟨s1, -, -⟩ := small_of (checkHall_parts nx.h0).1
      obtain ⟨s2, -, -⟩ := small_of (checkHall_parts nx.ok).1
      by_cases hk : k < 4
      · obtain ⟨x, hx⟩ : ∃ x, h.d.zs[k]? = some x := ⟨h.d.zs[k]'(by have := s1.n; omega), by simp⟩
        obtain ⟨y, hy⟩ : ∃ y, m.d.zs[k]? = some y := ⟨m.d.zs[k]'(by have := s2.n; omega), by simp⟩
        rw [getD_of hx, getD_of hy]
        exact ((lf.kept k x y hx hy).2 (fun g => hr ⟨g.2, g.1.symm⟩)).2
      · have e1 : h.d.zs.getD k S.Zone.zero = S.Zone.zero := by
          rw [List.getD_eq_getElem?_getD, List.getElem?_eq_none (by have := s1.n; omega)]; rfl
        rw [e1]
        exact Nat.zero_le _
    · rw [did.same ha]
      exact Nat.le_refl _

/-- with more records the elder blocks stay whose they were, till the zone is reset -/
theorem owners_more : ∀ (l : List S.Rec) (h : S.Hall) (k : Nat) (out a : List Int), out.length = (h.d.zs.getD k S.Zone.zero).d.length → S.ownersFrom h k out l = (a, 0) →
    (l.any fun r => decide (r.c.kind = 4) && decide (r.c.z = k)) = false → out.length ≤ a.length ∧ a.take out.length = out
  | [], h, k, out, a, ho, e, _ => by
    rw [S.ownersFrom] at e
    cases e
    simp
  | r :: l, h, k, out, a, ho, e, hn => by
    rw [S.ownersFrom] at e
    rw [List.any_cons, Bool.or_eq_false_iff] at hn
    by_cases h0 : (S.nextHall h r).2.2 = 0
    · rw [if_neg (by simp [h0])] at e
      have hg := next_grows (k := k) h0 (by have := hn.1; simpa using this)
      obtain ⟨g1, g2⟩ := owners_more l _ k _ a (grow_len ..) e hn.2
      rw [grow_len] at g1 g2
      generalize ((S.nextHall h r).1.d.zs.getD k S.Zone.zero).d.length = L at *
      rw [← ho] at hg
      refine ⟨by omega, ?_⟩
      have : (a.take L).take out.length = out := by
        rw [g2, List.take_take, Nat.min_eq_left hg, List.take_left']
        rfl
      rw [List.take_take, Nat.min_eq_left hg] at this
      exact this
    · rw [if_pos h0] at e
      exact absurd (congrArg Prod.snd e) h0

theorem owners_split : ∀ (l1 l2 : List S.Rec) (h : S.Hall) (k : Nat) (out a : List Int), S.ownersFrom h k out (l1 ++ l2) = (a, 0) →
    ∃ (m : S.Hall) (b : List Int), S.replayFrom h l1 = (m, 0) ∧ S.ownersFrom h k out l1 = (b, 0) ∧ S.ownersFrom m k b l2 = (a, 0)
  | [], l2, h, k, out, a, e => ⟨h, out, rfl, rfl, e⟩
  | r :: l, l2, h, k, out, a, e => by
    rw [List.cons_append, S.ownersFrom] at e
    by_cases h0 : (S.nextHall h r).2.2 = 0
    · rw [if_neg (by simp [h0])] at e
      obtain ⟨m, b, g1, g2, g3⟩ := owners_split l l2 _ k _ a e
      refine ⟨m, b, ?_, ?_, g3⟩
      · rw [S.replayFrom, if_neg (by simp [h0])]; exact g1
      · rw [S.ownersFrom, if_neg (by simp [h0])]; exact g2
    · rw [if_pos h0] at e
      exact absurd (congrArg Prod.snd e) h0

/-- what law.TallyAll says, in plain data -/
theorem owners_all {l : List S.Rec} {k : Nat} {a : List Int} (hk : k < 4) (e : S.owners l k = (a, 0)) :
    l.length ≤ 80 ∧ (∃ (m : S.Hall) (z : S.Zone), S.replay l = (m, 0) ∧ m.d.zs[k]? = some z ∧ a.length = z.d.length) ∧
    ∀ n : Nat, n ≤ l.length → ∃ b, S.owners (l.take n) k = (b, 0) ∧ (((l.drop n).any fun r => decide (r.c.kind = 4) && decide (r.c.z = k)) = false → b.length ≤ a.length ∧ a.take b.length = b) := by
  unfold S.owners at e
  by_cases hl : 80 < l.length
  · rw [if_pos hl] at e; cases e
  rw [if_neg hl, if_neg (by omega)] at e
  simp only [Int.toNat_natCast] at e
  have h0 : S.checkHall S.Hall.new = 0 := by decide
  have z0 : ([] : List Int).length = (S.Hall.new.d.zs.getD k S.Zone.zero).d.length := by
    rcases k with _ | _ | _ | _ | k <;> rfl
  refine ⟨by omega, ?_, fun n hn => ?_⟩
  · obtain ⟨m, g1, g2, g3⟩ := owners_hall l _ k [] a h0 z0 e
    obtain ⟨s1, -, -⟩ := small_of (checkHall_parts g2).1
    obtain ⟨x, hx⟩ : ∃ x, m.d.zs[k]? = some x := ⟨m.d.zs[k]'(by have := s1.n; omega), by simp⟩
    refine ⟨m, x, ?_, hx, by rw [g3, getD_of hx]⟩
    unfold S.replay
    rw [if_neg hl]
    exact g1
  · rw [← List.take_append_drop n l] at e
    obtain ⟨m, b, g1, g2, g3⟩ := owners_split _ _ _ k [] a e
    refine ⟨b, ?_, fun hr => ?_⟩
    · unfold S.owners
      rw [if_neg (by simp; omega), if_neg (by omega)]
      exact g2
    · obtain ⟨m', q1, q2, q3⟩ := owners_hall _ _ k [] b h0 z0 g2
      rw [g1] at q1
      cases q1
      exact owners_more _ m k b a q3 g3 hr

end Go.Proofs.Ytdjdjnmccphbjaa.E
namespace Go.Proofs.Ytdjdjnmccphbjaa.E
open Go.RowKit Go.Proofs
set_option maxRecDepth 100000
set_option maxHeartbeats 1000000
set_option linter.unusedSimpArgs false
set_option linter.unusedVariables false

theorem tally_Owners (l : List S.Rec) (k : Int) : C Try.prog 73 [.lst false 7 (l.map (recC false)), Int' k] (.tup [.lst true 1 (I (S.owners l k).1), Int' (S.owners l k).2]) [] := by
  by_cases hb : 80 < l.length ∨ k < 0 ∨ 4 ≤ k
  · exact tally_Owners_bad l k hb
  · obtain ⟨n, rfl⟩ : ∃ n : Nat, k = n := ⟨k.toNat, by omega⟩
    exact tally_Owners_ok l n (by omega) (by omega)

theorem owners_eq {l : List S.Rec} {k : Int} {q : List Int × Int} (h : S.owners l k = q) : C Try.prog 73 [.lst false 7 (l.map (recC false)), Int' k] (.tup [.lst true 1 (I q.1), Int' q.2]) [] := h ▸ tally_Owners l k

theorem sub_refl (l : List AV) : SubL SubC l l := ⟨rfl, fun j c c' h1 h2 => by rw [h1] at h2; cases h2; exact .refl _⟩

abbrev RO : List S.Rec := [⟨1, 1, putC 5⟩, ⟨2, 1, ⟨5, 1, 0, 0, [6, 7]⟩⟩]
abbrev RO' : List S.Rec := [⟨1, 1, putC 5⟩, ⟨2, 1, ⟨5, 1, 0, 0, [6, 7]⟩⟩, ⟨0, 1, ⟨4, 1, 0, 0, []⟩⟩]

theorem law_owned : C Try.prog 74 [] (Bool' true) [] := by
  have c1 := hid (owners_eq (l := RO) (k := 1) (q := ([1, 2, 2], 0)) (by decide))
  have c2 := hid (show C Try.prog 73 [.lst false 7 [recC false ⟨1, 1, putC 5⟩, recC false ⟨2, 1, ⟨5, 1, 0, 0, [6, 7]⟩⟩, [Int' 0, Int' 1, Int' 4, Int' 1, Int' 0, Int' 0, .nl]], Int' 1] (.tup [.lst true 1 (I []), Int' 0]) [] from
    (owners_eq (l := RO') (k := 1) (q := ([], 0)) (by decide)).args (.cons (.leaf (.lst (fun h => h) (.cons (sub_refl _) (.cons (sub_refl _) (.cons (.cons (.refl _) (.cons (.refl _) (.cons (.refl _) (.cons (.refl _) (.cons (.refl _) (.cons (.refl _) (.cons .nl (.nil _)))))))) .nil))))) (.cons (.refl _) (.nil _))))
  refine C_inline [] Try.func74 (fun _ _ => by kernel_rfl) rfl (by kernel_rfl) (by rfl) (by decide) (by rfl) (by rfl) (by rfl) ?_
  simp -dsimp -implicitDefEqProofs [-getElem?_pos, -List.map_append, -List.map_set, List.getElem?_cons_zero, List.getElem?_cons_succ]
  refine call_CC (law_puts 5) ?_
  simp -dsimp -implicitDefEqProofs [-getElem?_pos, -List.map_append, -List.map_set, List.getElem?_cons_zero, List.getElem?_cons_succ]
  refine call_CC (c1.out) ?_
  simp -dsimp -implicitDefEqProofs [-getElem?_pos, -List.map_append, -List.map_set, List.getElem?_cons_zero, List.getElem?_cons_succ]
  refine call_CC (c2.out) ?_
  simp -dsimp -implicitDefEqProofs [-getElem?_pos, -List.map_append, -List.map_set, List.getElem?_cons_zero, List.getElem?_cons_succ]
  refine call_CS (CS_inline (typesOk _) Try.func73 (fun _ _ => by kernel_rfl) rfl (by kernel_rfl) (Nat.le_of_ble_eq_true rfl) ?_)
  simp -dsimp -implicitDefEqProofs [-getElem?_pos, -List.map_append, -List.map_set, List.getElem?_cons_zero, List.getElem?_cons_succ]
  refine call_CC (int_equal [1, 2, 2] [1, 2, 2]) ?_
  simp -dsimp -implicitDefEqProofs [-getElem?_pos, -List.map_append, -List.map_set, List.getElem?_cons_zero, List.getElem?_cons_succ]
  exact ends_bool rfl

end Go.Proofs.Ytdjdjnmccphbjaa.E
