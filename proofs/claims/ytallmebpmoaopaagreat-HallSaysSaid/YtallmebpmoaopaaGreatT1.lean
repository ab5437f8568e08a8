/- T1: Ta: tally.Owners. Tb: who wrote what, in plain data. Tc: law.owned. -/
import Derived.Test.YtallmebpmoaopaaGreatK1
import Derived.Test.YtallmebpmoaopaaGreatX4
import Derived.Test.YtallmebpmoaopaaGreatOw
namespace Go.Proofs.YtallmebpmoaopaaGreat.E
open Go.RowKit Go.Proofs
set_option maxRecDepth 100000
set_option maxHeartbeats 1000000
set_option linter.unusedSimpArgs false
set_option linter.unusedVariables false

/-- rows at the outer loop's head: a hall, and what was found; the records that are left give q -/
def TallyAt (s : Nat) (h : Heap) (v : AV) (k : Nat) (l : List S.Rec) (q : List Int × Int) : Prop :=
  ∃ (H : S.Hall) (out : List Int), h 48 = some ⟨30, 5, [hallC true H]⟩ ∧ OwnIs [48] s h v out ∧ out.length ≤ 8 ∧ S.ownersFrom H k out l = q

end Go.Proofs.YtallmebpmoaopaaGreat.E
namespace Go.Proofs.YtallmebpmoaopaaGreat.E
open Go.RowKit Go.Proofs
set_option maxRecDepth 100000
set_option maxHeartbeats 1000000
set_option linter.unusedSimpArgs false
set_option linter.unusedVariables false

theorem grow_len (out : List Int) (w : Int) (n : Nat) : ((out ++ List.replicate (n - out.length) w).take n).length = n := by
  simp; omega

/-- who wrote is told as long as the records are replayed, and of as many blocks as are written -/
theorem owners_hall : ∀ (l : List S.Rec) (h : S.Hall) (k : Nat) (out a : List Int), S.checkHall h = 0 → out.length = (h.d.zs.getD k S.Zone.zero).d.length → S.ownersFrom h k out l = (a, 0) →
    ∃ m : S.Hall, S.replayFrom h l = (m, 0) ∧ S.checkHall m = 0 ∧ a.length = (m.d.zs.getD k S.Zone.zero).d.length
  | [], h, k, out, a, hh, ho, e => by
    rw [S.ownersFrom] at e
    cases e
    exact ⟨h, rfl, hh, ho⟩
  | r :: l, h, k, out, a, hh, ho, e => by
    rw [S.ownersFrom] at e
    by_cases h0 : (S.nextHall h r).2.2 = 0
    · rw [if_neg (by simp [h0])] at e
      obtain ⟨m, g1, g2, g3⟩ := owners_hall l _ k _ a (next_of h0).2.ok (grow_len ..) e
      refine ⟨m, ?_, g2, g3⟩
      rw [S.replayFrom, if_neg (by simp [h0])]
      exact g1
    · rw [if_pos h0] at e
      exact absurd (congrArg Prod.snd e) h0

/-- a zone's blocks behind a record that doesn't reset it are no fewer -/
theorem next_grows {h : S.Hall} {r : S.Rec} {k : Nat} (e : (S.nextHall h r).2.2 = 0) (hr : ¬ (r.c.kind = 4 ∧ r.c.z = k)) :
    (h.d.zs.getD k S.Zone.zero).d.length ≤ ((S.nextHall h r).1.d.zs.getD k S.Zone.zero).d.length := by
  obtain ⟨-, nx⟩ := next_of e
  generalize (S.nextHall h r).1 = m at nx
  generalize (S.nextHall h r).2.1 = a at nx
  rcases nx.did with ⟨rfl, -⟩ | ⟨-, did, -⟩
  · exact Nat.le_refl _
  · by_cases h8 : 8 ≤ r.c.kind
    · rw [(did.zones h8).1]
      exact Nat.le_refl _
    by_cases ha : a.e = 0
    · have lf := did.left ha (by omega)
      obtain ⟨s1, -, -⟩ := small_of (checkHall_parts nx.h0).1
      obtain ⟨s2, -, -⟩ := small_of (checkHall_parts nx.ok).1
      by_cases hk : k < 4
      · obtain ⟨x, hx⟩ : ∃ x, h.d.zs[k]? = some x := ⟨h.d.zs[k]'(by have := s1.n; omega), by simp⟩
        obtain ⟨y, hy⟩ : ∃ y, m.d.zs[k]? = some y := ⟨m.d.zs[k]'(by have := s2.n; omega), by simp⟩
        rw [getD_of hx, getD_of hy]
        exact ((lf.kept k x y hx hy).2 (fun g => hr ⟨g.2, g.1.symm⟩)).2
      · have e1 : h.d.zs.getD k S.Zone.zero = S.Zone.zero := by
          rw [List.getD_eq_getElem?_getD, List.getElem?_eq_none (by have := s1.n; omega)]; rfl
        rw [e1]
        exact Nat.zero_le _
    · rw [did.same ha]
      exact Nat.le_refl _

/-- with more records the elder blocks stay whose they were, till the zone is reset -/
theorem owners_more : ∀ (l : List S.Rec) (h : S.Hall) (k : Nat) (out a : List Int), out.length = (h.d.zs.getD k S.Zone.zero).d.length → S.ownersFrom h k out l = (a, 0) →
    (l.any fun r => decide (r.c.kind = 4) && decide (r.c.z = k)) = false → out.length ≤ a.length ∧ a.take out.length = out
  | [], h, k, out, a, ho, e, _ => by
    rw [S.ownersFrom] at e
    cases e
    simp
  | r :: l, h, k, out, a, ho, e, hn => by
    rw [S.ownersFrom] at e
    rw [List.any_cons, Bool.or_eq_false_iff] at hn
    by_cases h0 : (S.nextHall h r).2.2 = 0
    · rw [if_neg (by simp [h0])] at e
      have hg := next_grows (k := k) h0 (by have := hn.1; simpa using this)
      obtain ⟨g1, g2⟩ := owners_more l _ k _ a (grow_len ..) e hn.2
      rw [grow_len] at g1 g2
      generalize ((S.nextHall h r).1.d.zs.getD k S.Zone.zero).d.length = L at *
      rw [← ho] at hg
      refine ⟨by omega, ?_⟩
      have : (a.take L).take out.length = out := by
        rw [g2, List.take_take, Nat.min_eq_left hg, List.take_left']
        rfl
      rw [List.take_take, Nat.min_eq_left hg] at this
      exact this
    · rw [if_pos h0] at e
      exact absurd (congrArg Prod.snd e) h0

theorem owners_split : ∀ (l1 l2 : List S.Rec) (h : S.Hall) (k : Nat) (out a : List Int), S.ownersFrom h k out (l1 ++ l2) = (a, 0) →
    ∃ (m : S.Hall) (b : List Int), S.replayFrom h l1 = (m, 0) ∧ S.ownersFrom h k out l1 = (b, 0) ∧ S.ownersFrom m k b l2 = (a, 0)
  | [], l2, h, k, out, a, e => ⟨h, out, rfl, rfl, e⟩
  | r :: l, l2, h, k, out, a, e => by
    rw [List.cons_append, S.ownersFrom] at e
    by_cases h0 : (S.nextHall h r).2.2 = 0
    · rw [if_neg (by simp [h0])] at e
      obtain ⟨m, b, g1, g2, g3⟩ := owners_split l l2 _ k _ a e
      refine ⟨m, b, ?_, ?_, g3⟩
      · rw [S.replayFrom, if_neg (by simp [h0])]; exact g1
      · rw [S.ownersFrom, if_neg (by simp [h0])]; exact g2
    · rw [if_pos h0] at e
      exact absurd (congrArg Prod.snd e) h0

/-- what law.TallyAll says, in plain data -/
theorem owners_all {l : List S.Rec} {k : Nat} {a : List Int} (hk : k < 4) (e : S.owners l k = (a, 0)) :
    l.length ≤ 80 ∧ (∃ (m : S.Hall) (z : S.Zone), S.replay l = (m, 0) ∧ m.d.zs[k]? = some z ∧ a.length = z.d.length) ∧
    ∀ n : Nat, n ≤ l.length → ∃ b, S.owners (l.take n) k = (b, 0) ∧ (((l.drop n).any fun r => decide (r.c.kind = 4) && decide (r.c.z = k)) = false → b.length ≤ a.length ∧ a.take b.length = b) := by
  unfold S.owners at e
  by_cases hl : 80 < l.length
  · rw [if_pos hl] at e; cases e
  rw [if_neg hl, if_neg (by omega)] at e
  simp only [Int.toNat_natCast] at e
  have h0 : S.checkHall S.Hall.new = 0 := by decide
  have z0 : ([] : List Int).length = (S.Hall.new.d.zs.getD k S.Zone.zero).d.length := by
    rcases k with _ | _ | _ | _ | k <;> rfl
  refine ⟨by omega, ?_, fun n hn => ?_⟩
  · obtain ⟨m, g1, g2, g3⟩ := owners_hall l _ k [] a h0 z0 e
    obtain ⟨s1, -, -⟩ := small_of (checkHall_parts g2).1
    obtain ⟨x, hx⟩ : ∃ x, m.d.zs[k]? = some x := ⟨m.d.zs[k]'(by have := s1.n; omega), by simp⟩
    refine ⟨m, x, ?_, hx, by rw [g3, getD_of hx]⟩
    unfold S.replay
    rw [if_neg hl]
    exact g1
  · rw [← List.take_append_drop n l] at e
    obtain ⟨m, b, g1, g2, g3⟩ := owners_split _ _ _ k [] a e
    refine ⟨b, ?_, fun hr => ?_⟩
    · unfold S.owners
      rw [if_neg (by simp; omega), if_neg (by omega)]
      exact g2
    · obtain ⟨m', q1, q2, q3⟩ := owners_hall _ _ k [] b h0 z0 g2
      rw [g1] at q1
      cases q1
      exact owners_more _ m k b a q3 g3 hr

end Go.Proofs.YtallmebpmoaopaaGreat.E
namespace Go.Proofs.YtallmebpmoaopaaGreat.E
open Go.RowKit Go.Proofs
set_option maxRecDepth 100000
set_option maxHeartbeats 1000000
set_option linter.unusedSimpArgs false
set_option linter.unusedVariables false

theorem sub_refl (l : List AV) : SubL SubC l l := ⟨rfl, fun j c c' h1 h2 => by rw [h1] at h2; cases h2; exact .refl _⟩

abbrev RO : List S.Rec := [⟨1, 1, putC 5⟩, ⟨2, 1, ⟨5, 1, 0, 0, [6, 7]⟩⟩]
abbrev RO' : List S.Rec := [⟨1, 1, putC 5⟩, ⟨2, 1, ⟨5, 1, 0, 0, [6, 7]⟩⟩, ⟨0, 1, ⟨4, 1, 0, 0, []⟩⟩]

end Go.Proofs.YtallmebpmoaopaaGreat.E
