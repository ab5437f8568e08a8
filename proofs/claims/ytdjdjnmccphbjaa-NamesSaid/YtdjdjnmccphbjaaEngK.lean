/- EngK: one operation, a region in the order of its text, code. -/
import Derived.Test.YtdjdjnmccphbjaaEngJ
namespace Go.Proofs.Ytdjdjnmccphbjaa.E
open Go.RowKit

section
variable {P : Program} {B : Nat} {W0 : World} {nt : Nat}

theorem Rl.put {ρ ρ' : Nat → Option Place} {ok ok' : Nat → Prop} {w w' : World} {st : St} {a : Act} {U : Nat → Prop} (R : Rl B W0 ρ ok nt st a w) (x : Ext U ρ ρ' ok ok' w w') {h' : Heap} {n' : Nat} (H : HRel B W0 ρ' ok' h' n' w')
    {d : Option Tmp} (hd : ∀ k, d = some k → k < nt) {r : AV} {z : Value} (hr : V B ρ' ok' w' r z) : Rl B W0 ρ' ok' nt (St.put ⟨st.t, h', n'⟩ d r) (a.put d z) w' := by
  cases d with
  | none => exact ⟨H, fun k => (R.tmps k).ext x, R.size, R.defers⟩
  | some d =>
    refine ⟨H, fun k => ?_, by simpa [Act.put] using R.size, R.defers⟩
    have hlt := hd d rfl
    show V B ρ' ok' w' (upd st.t d r k) ((a.tmps.setIfInBounds d z).getD k undef)
    by_cases hk : k = d
    · subst hk
      rw [upd_same]
      have : (a.tmps.setIfInBounds k z).getD k undef = z := by simp [R.size, hlt]
      rw [this]; exact hr
    · rw [upd_ne _ _ hk]
      have : (a.tmps.setIfInBounds d z).getD k undef = a.tmps.getD k undef := by simp [Array.getElem?_setIfInBounds_ne (Ne.symm hk)]
      rw [this]; exact (R.tmps k).ext x

def dstOk (nt : Nat) (d : Option Tmp) : Bool := match d with | some k => decide (k < nt) | none => true
theorem dst_lt {nt : Nat} {d : Option Tmp} (h : dstOk nt d = true) : ∀ k, d = some k → k < nt := by
  intro k e; subst e; simpa [dstOk] using h

/-- new names of an operation: its own, and those behind all -/
def Names (id n : Nat) (i : Nat) : Prop := (id ≤ i ∧ i < id + 4) ∨ n ≤ i

/-- one operation -/
theorem step_sound (T : TypesOk P) {ρ : Nat → Option Place} {ok : Nat → Prop} {w : World} {st : St} {a : Act} (R : Rl B W0 ρ ok nt st a w) {o : Oper} {id : Nat} (hok : opOk o.op = true) (hd : dstOk nt o.dst = true) (hid : id + 4 ≤ st.n) (hfree : ∀ j, j < 4 → ρ (id + j) = none)
    {draw : Bool} {K : St → Prop} {i j} (hs : stepA P draw id o.dst o.op K i j st) {next : Act → World → Prop} {Q : Exit → Act → World → Prop}
    (hn : ∀ st' a' w' ρ' ok', K st' → Rl B W0 ρ' ok' nt st' a' w' → Ext (Names id st.n) ρ ρ' ok ok' w w' → st.n ≤ st'.n → next a' w') : o.wp P a w next Q := by
  have ev : ∀ x, okOpd x = true → V B ρ ok w (evA st.t x) (a.eval x) := fun x hx => ev_sound R hx
  have hd' := dst_lt hd
  have hU : ∀ i, i = id → Names id st.n i := fun i e => Or.inl (by omega)
  have hf0 : ρ id = none := by simpa using hfree 0 (by omega)
  have val : ∀ r, valA P st.t st.h o.op = some r → K (st.put o.dst r) → o.wp P a w next Q := by
    intro r hr hk
    obtain ⟨z, h1, h2⟩ := val_sound T R hok hr
    unfold Oper.wp
    rw [h1]
    exact hn _ _ _ _ _ hk (R.put (Ext.refl (Names id st.n) ρ ok w) R.heap hd' h2) (Ext.refl _ _ _ _) (by cases o.dst <;> exact Nat.le_refl _)
  have new : ∀ ev, newA P st.t id o.op = some ev → K (St.put ⟨st.t, upd st.h id (some ev.1), st.n⟩ o.dst ev.2) → o.wp P a w next Q := by
    intro ev he hk
    obtain ⟨z, w', ρ', h1, h2, h3, h4⟩ := new_sound T R hok (by omega) hf0 (e := ev.1) (v := ev.2) he
    unfold Oper.wp
    rw [h1]
    exact hn _ _ _ _ _ hk (R.put h4 h2 hd' h3) (h4.weaken hU) (by cases o.dst <;> exact Nat.le_refl _)
  generalize hop : o.op = op at *
  unfold stepA at hs
  split at hs
  · -- store
    rename_i ty x y _
    obtain ⟨h', he, hk⟩ := hs
    obtain ⟨w', h1, h2, h3⟩ := store_sound R.heap (ev x (opd hok (by simp [Op.operands]))) (ev y (opd hok (by simp [Op.operands]))) he
    unfold Oper.wp
    have e : (execOp a.eval o).run P w = .ok .skip w' := by
      unfold execOp
      simp [hop, h1]
    rw [e]
    exact hn _ _ _ _ _ hk (R.put h3 h2 hd' .und) (h3.weaken (fun _ hf => hf.elim)) (by cases o.dst <;> exact Nat.le_refl _)
  · obtain ⟨ev, he, hk⟩ := hs; exact new ev he hk
  · obtain ⟨ev, he, hk⟩ := hs; exact new ev he hk
  · obtain ⟨ev, he, hk⟩ := hs; exact new ev he hk
  · obtain ⟨ev, he, hk⟩ := hs; exact new ev he hk
  · -- append
    rename_i args tys _
    split at hs
    · rename_i x y ty ty' hx hy
      split at hs
      · exact hs.elim
      · rename_i hty
        have hty' : ty' = ty := Classical.not_not.1 hty
        subst hty'
        obtain ⟨⟨h', v⟩, he, hk⟩ := hs
        have ha : args = #[x, y] := by rw [← Array.toArray_toList (xs := args), hx]
        have ht : tys = #[ty', ty'] := by rw [← Array.toArray_toList (xs := tys), hy]
        subst ha; subst ht
        obtain ⟨z, w', ρ', h1, h2, h3, h4⟩ := append_sound T R.heap (id := id) (ty := o.type) (by omega) hf0 (ev x (opd hok (by simp [Op.operands, Call.operands]))) (ev y (opd hok (by simp [Op.operands, Call.operands]))) he
        unfold Oper.wp
        have e : (execOp a.eval o).run P w = .ok (.value z) w' := by
          unfold execOp
          simp [hop, resolve, invoke, builtin, h1]
        rw [e]
        exact hn _ _ _ _ _ hk (R.put h4 h2 hd' h3) (h4.weaken hU) (by cases o.dst <;> exact Nat.le_refl _)
    · exact hs.elim
  · -- call
    rename_i g args tys _
    obtain ⟨⟨f, caps⟩, hg, hs⟩ := hs
    have hgv := ev g (opd hok (by simp [Op.operands, Call.operands]))
    have hge : evA st.t g = .fn f caps := by
      unfold fnOf at hg
      split at hg
      · rename_i f' c' heq; simp only [Option.some.injEq, Prod.mk.injEq] at hg; rw [heq, hg.1, hg.2]
      · cases hg
    rw [hge] at hgv
    generalize hgval : a.eval g = gv at hgv
    cases hgv with
    | fn hl1 hl2 =>
      rename_i cvs
      have hargs : VL B ρ ok w (args.toList.map (evA st.t) ++ caps) ((args.map a.eval).toList ++ cvs) := by
        refine ⟨by simp [hl1], fun j c u hc hu => ?_⟩
        by_cases hj : j < args.toList.length
        · rw [List.getElem?_append_left (by simpa using hj)] at hc
          rw [List.getElem?_append_left (by simpa using hj)] at hu
          simp only [Array.toList_map, List.getElem?_map] at hc hu
          cases hq : args.toList[j]? with
          | none => rw [hq] at hc; cases hc
          | some x =>
            rw [hq] at hc hu
            cases hc; cases hu
            refine ev x (opd hok ?_)
            have := List.mem_of_getElem? hq
            simp [Op.operands, Call.operands]
            exact Or.inr (by simpa using this)
        · rw [List.getElem?_append_right (by simpa using hj)] at hc
          rw [List.getElem?_append_right (by simpa using hj)] at hu
          simp only [List.length_map, Array.toList_map] at hc hu
          exact hl2 _ c u hc hu
      have enter : ∀ (hcf : Callable P f), (execOp a.eval o).run P w = .ok (.enter f ((args.map a.eval).toList ++ cvs).toArray) w := by
        intro hcf
        unfold execOp
        simp [hop, resolve, hgval, Deferred.ofValue, invoke, hcf _ w]
      rcases hs with ⟨r, news, args', hview, hC, hcond, hnl, hk⟩ | ⟨-, hcs⟩
      · unfold Oper.wp
        rw [enter hC.1, Oper.upon_enter]
        refine (call_sound R.heap hid hfree hargs hview hC hcond hnl).mono ?_
        rintro e w' ⟨v, ρ', ok', rfl, h1, h2, h3⟩
        exact hn _ _ _ _ _ hk (R.put h3 h1 hd' h2) (h3.weaken fun i hi => Or.inl hi) (by cases o.dst <;> exact Nat.le_refl _)
      · unfold Oper.wp
        rw [enter hcs.1, Oper.upon_enter]
        refine (hcs.2 B W0 ρ ok w _ R.heap hargs).mono ?_
        rintro e w' ⟨v, h', n', r, ρ', ok', rfl, hk, hnn, h1, h2, h3⟩
        exact hn _ _ _ _ _ hk (R.put h3 h1 hd' h2) (h3.weaken fun i hi => Or.inr hi) (by cases o.dst <;> exact hnn)
  · obtain ⟨r, hr, hk⟩ := hs; exact val r hr hk

/-- whether an operation runs -/
theorem want_sound {ρ : Nat → Option Place} {ok : Nat → Prop} {w : World} {st : St} {a : Act} (R : Rl B W0 ρ ok nt st a w) (ops : Array Oper) (o : Oper) : Region.wanted o (yielded ops a.tmps) = wantA ops o st.t := by
  unfold Region.wanted wantA
  split
  · rename_i hg; simp [hg]
  · rename_i j b hg
    simp only [hg]
    unfold yielded
    cases hd : (ops[j]?).bind (·.dst) with
    | none => simp
    | some d =>
      have hv := R.tmps d
      simp only [Option.bind_some]
      generalize st.t d = x at *
      have key : ∀ z, a.tmps.getD d undef = z → (a.tmps[d]? = some z ∨ (a.tmps[d]? = none ∧ z = .tuple #[])) := by
        intro z hz
        cases hq : a.tmps[d]? with
        | none => right; simp [hq] at hz; exact ⟨rfl, hz.symm⟩
        | some y => left; simp [hq] at hz; rw [hz]
      have kz := key _ rfl
      clear key
      generalize a.tmps.getD d undef = z at hv kz
      cases x with
      | «at» v =>
        have := V_at hv
        subst this
        rcases kz with kz | ⟨kz, kz2⟩
        · rw [kz]
          cases z <;> simp
          rename_i q
          cases b <;> cases q <;> rfl
        · rw [kz, kz2]; simp
      | nilv => cases hv; rcases kz with kz | ⟨kz, kz2⟩ <;> simp [kz]
      | nn => cases hv; rcases kz with kz | ⟨kz, kz2⟩ <;> simp [kz]
      | und => cases hv; rcases kz with kz | ⟨kz, kz2⟩ <;> simp [kz]
      | nl => cases hv; rcases kz with kz | ⟨kz, kz2⟩ <;> simp [kz]
      | lst fr s rows => cases hv with | lst hp => cases hp; rcases kz with kz | ⟨kz, kz2⟩ <;> simp [kz]
      | rp c => obtain ⟨b', o', e, -, -⟩ := cellsAt_rp hv; subst e; rcases kz with kz | ⟨kz, kz2⟩ <;> simp [kz]
      | own i o n => cases hv <;> rcases kz with kz | ⟨kz, kz2⟩ <;> simp [kz]
      | ptr i s r o => cases hv; rcases kz with kz | ⟨kz, kz2⟩ <;> simp [kz]
      | agg l => cases hv; rcases kz with kz | ⟨kz, kz2⟩ <;> simp [kz]
      | tup l => cases hv; rcases kz with kz | ⟨kz, kz2⟩ <;> simp [kz]
      | fn f l => cases hv; rcases kz with kz | ⟨kz, kz2⟩ <;> simp [kz]

def operOk (nt : Nat) (o : Oper) : Bool := opOk o.op && dstOk nt o.dst

/-- a state and a world that stand for each other, since a beginning -/
def Since (B : Nat) (W0 : World) (nt : Nat) (ρ0 : Nat → Option Place) (ok0 : Nat → Prop) (w0 : World) (n0 : Nat) (st : St) (a : Act) (w : World) : Prop :=
  ∃ ρ ok, Rl B W0 ρ ok nt st a w ∧ Ext (fun i => n0 ≤ i) ρ0 ρ ok0 ok w0 w ∧ n0 ≤ st.n

/-- a region in the order of its text -/
theorem list_sound (T : TypesOk P) {ρ0 : Nat → Option Place} {ok0 : Nat → Prop} {w0 : World} {n0 : Nat} {ops : Array Oper} {base len : Nat} (hb0 : n0 ≤ base) {Q : St → Prop} {Qc : Exit → Act → World → Prop}
    (hQ : ∀ st a w, Q st → Since B W0 nt ρ0 ok0 w0 n0 st a w → Qc .normal a w) :
    ∀ (os : List Oper) (k : Nat) (st : St) (a : Act) (w : World) (ρ : Nat → Option Place) (ok : Nat → Prop), k + os.length = len → (os.all (operOk nt)) = true → Rl B W0 ρ ok nt st a w → Ext (fun i => n0 ≤ i) ρ0 ρ ok0 ok w0 w → base + 4 * len ≤ st.n →
      (∀ i, base + 4 * k ≤ i → i < base + 4 * len → ρ i = none) → runR P false ops base os k Q st → wpList P ops Qc os a w
  | [], k, st, a, w, ρ, ok, _, _, R, x, hn, _, hr => wpList_nil (hQ st a w hr ⟨ρ, ok, R, x, by omega⟩)
  | o :: os, k, st, a, w, ρ, ok, hl, hok, R, x, hn, hfree, hr => by
    simp only [List.all_cons, Bool.and_eq_true] at hok
    obtain ⟨ho, hos⟩ := hok
    simp only [operOk, Bool.and_eq_true] at ho
    simp only [List.length_cons] at hl
    simp only [runR] at hr
    refine wpList_step fun K hK => ?_
    rw [want_sound R ops o]
    unfold brA at hr
    split
    · rename_i hw
      rw [if_pos hw] at hr
      refine step_sound T R ho.1 ho.2 (by omega) (fun j hj => hfree _ (by omega) (by omega)) hr fun st' a' w' ρ' ok' hk R' x' hn' => hK a' w' ?_
      refine list_sound (base := base) (len := len) T hb0 hQ os (k + 1) st' a' w' ρ' ok' (by omega) hos R' (x.trans (x'.weaken fun i hi => ?_)) (by omega) (fun i h1 h2 => ?_) hk
      · rcases hi with hi | hi <;> omega
      · rw [x'.pl i (by rintro (hi | hi) <;> omega)]
        exact hfree i (by omega) h2
    · rename_i hw
      rw [if_neg hw] at hr
      refine hK _ _ (list_sound (base := base) (len := len) T hb0 hQ os (k + 1) _ _ w ρ ok (by omega) hos (R.put (Ext.refl (fun _ => False) ρ ok w) R.heap (dst_lt ho.2) .und) x (by cases o.dst <;> exact hn) (fun i h1 h2 => hfree i (by omega) h2) hr)

end
end Go.Proofs.Ytdjdjnmccphbjaa.E
