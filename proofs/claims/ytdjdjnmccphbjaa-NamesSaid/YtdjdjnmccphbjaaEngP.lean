/- EngP: what code leaves alone; loops. -/
import Derived.Test.YtdjdjnmccphbjaaEngO
namespace Go.Proofs.Ytdjdjnmccphbjaa.E
open Go.RowKit

section
variable {P : Program}

/-- the slots that code writes -/
def writes : Code → List Nat
  | .region _ ops _ => ops.toList.filterMap (·.dst)
  | .seq a b => writes a ++ writes b
  | .cond _ x y => writes x ++ writes y
  | .block _ c => writes c
  | .loop c => writes c
  | _ => []

def Same (W : List Nat) (t t' : Nat → AV) : Prop := ∀ k, W.contains k = false → t' k = t k
theorem Same.refl (W : List Nat) (t : Nat → AV) : Same W t t := fun _ _ => rfl
theorem Same.trans {W : List Nat} {a b c : Nat → AV} (h : Same W a b) (g : Same W b c) : Same W a c := fun k hk => (g k hk).trans (h k hk)
theorem Same.mono {W W' : List Nat} {a b : Nat → AV} (h : Same W a b) (hs : ∀ k, k ∈ W → k ∈ W') : Same W' a b := fun k hk => h k (by
  simp at hk ⊢; exact fun hc => hk (hs k hc))
theorem Same.put {W : List Nat} {st : St} {h' : Heap} {n' : Nat} {d : Option Tmp} {r : AV} (hd : ∀ k, d = some k → k ∈ W) : Same W st.t (St.put ⟨st.t, h', n'⟩ d r).t := by
  intro k hk
  cases d with
  | none => rfl
  | some d =>
    show upd st.t d r k = st.t k
    have := hd d rfl
    have : k ≠ d := by intro e; subst e; simp at hk; exact hk this
    simp [upd, this]

theorem step_same {W : List Nat} {draw : Bool} {id : Nat} {d : Option Tmp} {op : Op} {K : St → Prop} {i j} {st : St} (hd : ∀ k, d = some k → k ∈ W) (h : stepA P draw id d op K i j st) {K' : St → Prop} (hk : ∀ s, K s → Same W st.t s.t → K' s) : stepA P draw id d op K' ⟨⟩ ⟨⟩ st := by
  cases op with
  | call c =>
    obtain ⟨callee, args, tys⟩ := c
    cases callee with
    | value g =>
      obtain ⟨x, h1, h2⟩ := h
      refine ⟨x, h1, ?_⟩
      rcases h2 with ⟨r, news, args', a1, a2, a3, a4, a5⟩ | ⟨a1, a2, a3⟩
      · exact Or.inl ⟨r, news, args', a1, a2, a3, a4, hk _ a5 (Same.put hd)⟩
      · refine Or.inr ⟨a1, a2, fun B W0 ρ ok w vs H hv => (a3 B W0 ρ ok w vs H hv).mono ?_⟩
        rintro e w' ⟨v, h', n', r, ρ', ok', b1, b2, b3⟩
        exact ⟨v, h', n', r, ρ', ok', b1, hk _ b2 (Same.put hd), b3⟩
    | invoke r m => obtain ⟨x, h1, h2⟩ := h; exact ⟨x, h1, hk _ h2 (Same.put hd)⟩
    | builtin b =>
      cases b <;> (try (obtain ⟨x, h1, h2⟩ := h; exact ⟨x, h1, hk _ h2 (Same.put hd)⟩))
      change (match args.toList, tys.toList with | [x, y], [ty, ty'] => if ty' ≠ ty then False else bindO (appendA P st.h id ty (evA st.t x) (evA st.t y)) (fun hv => K (St.put ⟨st.t, hv.1, st.n⟩ d hv.2)) ⟨⟩ | _, _ => False) at h
      change (match args.toList, tys.toList with | [x, y], [ty, ty'] => if ty' ≠ ty then False else bindO (appendA P st.h id ty (evA st.t x) (evA st.t y)) (fun hv => K' (St.put ⟨st.t, hv.1, st.n⟩ d hv.2)) ⟨⟩ | _, _ => False)
      split at h
      · rename_i h1 h2
        split at h
        · exact h.elim
        · rename_i hne
          obtain ⟨x, g1, g2⟩ := h
          rw [if_neg hne]
          exact ⟨x, g1, hk _ g2 (Same.put hd)⟩
      · exact h.elim
  | _ => obtain ⟨x, h1, h2⟩ := h; exact ⟨x, h1, hk _ h2 (Same.put hd)⟩

theorem reg_same {W : List Nat} {draw : Bool} {ops : Array Oper} {base : Nat} {t0 : Nat → AV} {Q Q' : St → Prop} (hq : ∀ s, Q s → Same W t0 s.t → Q' s) : ∀ (os : List Oper) (k : Nat) (st : St), (∀ o, o ∈ os → ∀ d, o.dst = some d → d ∈ W) → Same W t0 st.t → runR P draw ops base os k Q st → runR P draw ops base os k Q' st
  | [], k, st, _, hs, h => hq st h hs
  | o :: os, k, st, hd, hs, h => by
    simp only [runR] at h ⊢
    unfold brA at h ⊢
    split
    · rename_i hw
      rw [if_pos hw] at h
      exact step_same (hd o (by simp)) h fun s hk hsm => reg_same hq os (k + 1) s (fun o ho => hd o (by simp [ho])) (hs.trans hsm) hk
    · rename_i hw
      rw [if_neg hw] at h
      exact reg_same hq os (k + 1) _ (fun o ho => hd o (by simp [ho])) (hs.trans (Same.put (hd o (by simp)))) h

theorem wp_same : ∀ (c : Code) {W : List Nat} {Q Q' : Exit → St → Prop} {t0 : Nat → AV} {st : St}, (∀ k, k ∈ writes c → k ∈ W) → (∀ e s, Q e s → Same W t0 s.t → Q' e s) → Same W t0 st.t → wp0 P c Q st → wp0 P c Q' st := by
  intro c
  induction c with
  | skip => intro W Q Q' t0 st _ hq hs h; exact hq _ _ h hs
  | region id ops d =>
    intro W Q Q' t0 st hw hq hs h
    exact reg_same (fun s h1 h2 => hq _ s h1 h2) _ _ _ (fun o ho k hk => hw k (by simp only [writes, List.mem_filterMap]; exact ⟨o, ho, hk⟩)) hs h
  | seq a b iha ihb =>
    intro W Q Q' t0 st hw hq hs h
    refine iha (Q := thenA (wp0 P b Q) Q ⟨⟩ ⟨⟩) (fun k hk => hw k (by simp [writes, hk])) (fun e s h1 h2 => ?_) hs h
    cases e with
    | normal => exact ihb (fun k hk => hw k (by simp [writes, hk])) hq h2 h1
    | exit k => exact hq _ _ h1 h2
    | goto k => exact hq _ _ h1 h2
    | ret => exact hq _ _ h1 h2
    | panic k => exact hq _ _ h1 h2
    | outgrown => exact hq _ _ h1 h2
  | cond c x y ihx ihy =>
    intro W Q Q' t0 st hw hq hs h
    obtain ⟨b, h1, h2⟩ := h
    refine ⟨b, h1, ?_⟩
    cases b with
    | true => exact ihx (fun k hk => hw k (by simp [writes, hk])) hq hs h2
    | false => exact ihy (fun k hk => hw k (by simp [writes, hk])) hq hs h2
  | block id c ih =>
    intro W Q Q' t0 st hw hq hs h
    refine ih (Q := blockA id Q ⟨⟩) (fun k hk => hw k hk) (fun e s h1 h2 => ?_) hs h
    cases e with
    | exit k =>
      simp only [blockA] at h1 ⊢
      split
      · rename_i hk; rw [if_pos hk] at h1; exact hq _ _ h1 h2
      · rename_i hk; rw [if_neg hk] at h1; exact hq _ _ h1 h2
    | normal => exact hq _ _ h1 h2
    | goto k => exact hq _ _ h1 h2
    | ret => exact hq _ _ h1 h2
    | panic k => exact hq _ _ h1 h2
    | outgrown => exact hq _ _ h1 h2
  | loop c ih =>
    intro W Q Q' t0 st hw hq hs h
    obtain ⟨I, m, h0, hr⟩ := h
    refine ⟨fun s => I s ∧ Same W t0 s.t, m, ⟨h0, hs⟩, fun s hi => ?_⟩
    refine ih (Q := thenA (fun s' => I s' ∧ m s' < m s) Q ⟨⟩ ⟨⟩) (fun k hk => hw k hk) (fun e s' h1 h2 => ?_) hi.2 (hr s hi.1)
    cases e with
    | normal => exact ⟨⟨h1.1, h2⟩, h1.2⟩
    | exit k => exact hq _ _ h1 h2
    | goto k => exact hq _ _ h1 h2
    | ret => exact hq _ _ h1 h2
    | panic k => exact hq _ _ h1 h2
    | outgrown => exact hq _ _ h1 h2
  | exit id => intro W Q Q' t0 st _ hq hs h; exact hq _ _ h hs
  | ret => intro W Q Q' t0 st _ hq hs h; exact hq _ _ h hs
  | rangeFunc => intro W Q Q' t0 st _ _ _ h; exact h.elim
  | scope => intro W Q Q' t0 st _ _ _ h; exact h.elim
  | label => intro W Q Q' t0 st _ _ _ h; exact h.elim
  | goto => intro W Q Q' t0 st _ _ _ h; exact h.elim
  | refuse => intro W Q Q' t0 st _ _ _ h; exact h.elim

def natAt (a : AV) : Nat := match a with | .at (.int _ n) => n.toNat | _ => 0

/-- a loop that counts in slot ci up to n -/
theorem loop_count {c : Code} {Q : Exit → St → Prop} {st : St} (ci n : Nat) (R : Nat → Heap → Nat → (Nat → AV) → Prop) (W : List Nat) (hW : writes c = W) (h0 : st.t ci = .at (.int .i64 0)) (hR : R 0 st.h st.n st.t)
    (round : ∀ (k : Nat) (t : Nat → AV) (h : Heap) (m : Nat), k < n → t ci = .at (.int .i64 k) → Same W st.t t → R k h m t → wpA P c (thenA (fun s' => s'.t ci = .at (.int .i64 (k + 1)) ∧ R (k + 1) s'.h s'.n s'.t) Q ⟨⟩ ⟨⟩) ⟨⟩ ⟨⟩ ⟨t, h, m⟩)
    (last : ∀ (t : Nat → AV) (h : Heap) (m : Nat), t ci = .at (.int .i64 n) → Same W st.t t → R n h m t → wpA P c (thenA (fun _ => False) Q ⟨⟩ ⟨⟩) ⟨⟩ ⟨⟩ ⟨t, h, m⟩) : wpA P (.loop c) Q ⟨⟩ ⟨⟩ st := by
  refine wpA_loop (fun s => (∃ k, k ≤ n ∧ s.t ci = .at (.int .i64 k) ∧ R k s.h s.n s.t) ∧ Same W st.t s.t) (fun s => n - natAt (s.t ci)) ⟨⟨0, Nat.zero_le _, h0, hR⟩, Same.refl _ _⟩ ?_
  rintro ⟨t, h, m⟩ ⟨⟨k, hk, h1, h2⟩, h3⟩
  simp only at h1 h2 h3
  have hw : ∀ x, x ∈ writes c → x ∈ W := fun x hx => hW ▸ hx
  by_cases hlt : k < n
  · refine wp_same c (t0 := st.t) hw ?_ h3 (round k t h m hlt h1 h3 h2)
    intro e s hq hs
    cases e with
    | normal =>
      obtain ⟨q1, q2⟩ := hq
      refine ⟨⟨⟨k + 1, hlt, by simpa using q1, q2⟩, hs⟩, ?_⟩
      simp only [q1, h1, natAt]
      omega
    | exit k => exact hq
    | goto k => exact hq
    | ret => exact hq
    | panic k => exact hq
    | outgrown => exact hq
  · have : k = n := by omega
    subst this
    refine wp_same c (t0 := st.t) hw ?_ h3 (last t h m h1 h3 h2)
    intro e s hq hs
    cases e with
    | normal => exact hq.elim
    | exit k => exact hq
    | goto k => exact hq
    | ret => exact hq
    | panic k => exact hq
    | outgrown => exact hq


/-! long regions: their lists come in parts -/
class App {α : Type} (a b : List α) (l : outParam (List α)) : Prop where
  h : a ++ b = l
instance {α : Type} (b : List α) : App [] b b := ⟨rfl⟩
instance {α : Type} (x : α) (a b l : List α) [i : App a b l] : App (x :: a) b (x :: l) := ⟨by rw [← i.h]; rfl⟩
@[simp high] theorem wpA_region_app {P : Program} {Q : Exit → St → Prop} {st : St} {id : Nat} {a b l : List Oper} {d : Bool} [i : App a b l] : wpA P (.region id (List.append a b).toArray d) Q ⟨⟩ ⟨⟩ st = regA P d l.toArray st.n l 0 (Q .normal) ⟨⟩ ⟨⟩ ⟨⟩ ⟨st.t, st.h, st.n + 4 * l.length⟩ := by
  have e : (List.append a b).toArray = l.toArray := by rw [← i.h]; rfl
  rw [e]
  exact wpA_region

end
end Go.Proofs.Ytdjdjnmccphbjaa.E
