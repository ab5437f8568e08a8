
/- Wj: StoryOnce as the law's loops ask it: record by record. -/
import Derived.Test.YtginfkadmjikhaaGreatDoorW2
namespace Go.Proofs.YtginfkadmjikhaaGreatDoor.E
open Go.RowKit Go.Proofs
set_option linter.unusedVariables false
set_option linter.unusedSimpArgs false
theorem filter_at {α : Type} {P : α → Bool} {L : List α} {i : Nat} {p : α} (h : L[i]? = some p) (hp : P p = true) : (L.filter P)[((L.take i).filter P).length]? = some p := by
  have hl := (List.getElem?_eq_some_iff.1 h).1
  have e : L = L.take i ++ p :: L.drop (i + 1) := by
    conv => lhs; rw [← List.take_append_drop i L]
    rw [List.drop_eq_getElem_cons hl, (List.getElem?_eq_some_iff.1 h).2]
  have e2 : L.filter P = (L.take i).filter P ++ p :: (L.drop (i + 1)).filter P := by
    conv => lhs; rw [e]
    rw [List.filter_append, List.filter_cons_of_pos hp]
  rw [e2, List.getElem?_append_right (Nat.le_refl _), Nat.sub_self]
  rfl
def countOf (k : Int) (l : List S.Rec) : Nat := (l.filter fun r => decide (r.who = k)).length
theorem count_zip (k : Int) : ∀ (l : List S.Rec) (bs : List S.Answer), l.length = bs.length → ((l.zip bs).filter fun p => decide (p.1.who = k)).length = countOf k l
  | [], bs, h => by simp [countOf]
  | r :: l, [], h => by simp at h
  | r :: l, a :: bs, h => by
    have ih := count_zip k l bs (by simpa using h)
    unfold countOf at ih ⊢
    rw [List.zip_cons_cons]
    by_cases g : r.who = k
    · rw [List.filter_cons_of_pos (by simp [g]), List.filter_cons_of_pos (by simp [g]), List.length_cons, List.length_cons, ih]
    · rw [List.filter_cons_of_neg (by simp [g]), List.filter_cons_of_neg (by simp [g]), ih]
theorem count_all (k : Int) (l : List S.Rec) : (mine k l).length = countOf k l := count_zip k l _ (by rw [answersFrom_len])
theorem once_at {w : S.World} {l : List S.Rec} {n i : Nat} {x : S.Hand} {r : S.Rec} {a : S.Answer} (h : Once w l) (hx : w.hand[n]? = some x) (hr : l[i]? = some r) (ha : (answersFrom S.Hall.new l)[i]? = some a) (hk : r.who = n) :
    r.seq = (countOf n (l.take i) : Int) + 1 ∧ (countOf n (l.take i) < x.got.length → x.got[countOf n (l.take i)]? = some a) := by
  have hz : (l.zip (answersFrom S.Hall.new l))[i]? = some (r, a) := by
    rw [List.getElem?_zip_eq_some]
    exact ⟨hr, ha⟩
  have hm := filter_at (P := fun p : S.Rec × S.Answer => decide (p.1.who = (n : Int))) hz (by simp [hk])
  have hc : (((l.zip (answersFrom S.Hall.new l)).take i).filter fun p => decide (p.1.who = (n : Int))).length = countOf n (l.take i) := by
    have : (l.zip (answersFrom S.Hall.new l)).take i = (l.take i).zip ((answersFrom S.Hall.new l).take i) := by
      simp [List.zip, List.take_zipWith]
    rw [this]
    exact count_zip n _ _ (by simp [answersFrom_len])
  rw [hc] at hm
  refine ⟨by have := h.num n _ _ hm; simpa using this, fun g => ?_⟩
  obtain ⟨-, -, g3⟩ := h.got n x hx
  obtain ⟨p, p1, p2⟩ := g3 _ _ (List.getElem?_eq_getElem g)
  have hm' : (mine (n : Int) l)[countOf n (l.take i)]? = some (r, a) := hm
  rw [hm'] at p1
  cases p1
  rw [List.getElem?_eq_getElem g, ← p2]
theorem once_count {w : S.World} {l : List S.Rec} {n : Nat} {x : S.Hand} (h : Once w l) (hx : w.hand[n]? = some x) : x.got.length ≤ countOf n l ∧ (countOf n l : Int) ≤ x.seq := by
  obtain ⟨g1, g2, -⟩ := h.got n x hx
  rw [count_all] at g1 g2
  exact ⟨g1, g2⟩
def toldFrom (h : S.Hall) (out : List S.Answer) : List S.Rec → List S.Answer × Int
  | [] => (out, 0)
  | r :: l => if (S.nextHall h r).2.2 ≠ 0 then ([], (S.nextHall h r).2.2) else toldFrom (S.nextHall h r).1 (out ++ [(S.nextHall h r).2.1]) l
def toldWorld (w : S.World) : List S.Answer × Int := if (S.doneWorld w).2 ≠ 0 then ([], (S.doneWorld w).2) else toldFrom S.Hall.new [] (S.doneWorld w).1
theorem toldFrom_ok : ∀ {l : List S.Rec} {h m : S.Hall} (out : List S.Answer), S.replayFrom h l = (m, 0) → toldFrom h out l = (out ++ answersFrom h l, 0)
  | [], h, m, out, e => by simp [toldFrom, answersFrom]
  | r :: l, h, m, out, e => by
    rw [S.replayFrom] at e
    by_cases g : (S.nextHall h r).2.2 ≠ 0
    · rw [if_pos g] at e; simp only [Prod.mk.injEq] at e; exact absurd e.2 g
    · rw [if_neg g] at e
      rw [toldFrom, if_neg g, toldFrom_ok _ e]
      simp [answersFrom]
theorem reach_told {w : S.World} {l : List S.Rec} (h : Reach w l) : toldWorld w = (answersFrom S.Hall.new l, 0) := by
  obtain ⟨m, hm⟩ := h.rep
  unfold toldWorld
  rw [reach_done h, if_neg (by simp), toldFrom_ok [] (S.replay_ok hm).2, List.nil_append]
def playFrom (w : S.World) : List S.Hap → S.World
  | [] => w
  | x :: l => playFrom (if (S.doWorld w x).2 = 0 then (S.doWorld w x).1 else w) l
theorem do_once {w : S.World} {l : List S.Rec} {x : S.Hap} (h : Once w l) (e : (S.doWorld w x).2 = 0) : ∃ l', Once (S.doWorld w x).1 l' ∧ l'.take l.length = l ∧ (answersFrom S.Hall.new l').take l.length = answersFrom S.Hall.new l := by
  have h0 := okW_check h.reach.ok
  unfold S.doWorld at e ⊢
  rw [if_neg (by simp [h0])] at e ⊢
  by_cases g : (S.happen w x).2 ≠ 0
  · rw [if_pos g] at e; exact absurd e g
  · rw [if_neg g]
    have he : S.happen w x = ((S.happen w x).1, 0) := Prod.ext rfl (Decidable.not_not.1 g)
    obtain ⟨l1, o1⟩ := once_happen h he
    obtain ⟨l2, r2, q1, q2⟩ := story_grows h.reach he
    have hl : l1 = l2 := textOf_inj o1.reach.ok.recs r2.ok.recs (by rw [← o1.reach.ok.safe, ← r2.ok.safe])
    subst hl
    exact ⟨l1, o1, q1, q2⟩
end Go.Proofs.YtginfkadmjikhaaGreatDoor.E
