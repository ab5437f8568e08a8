/- EngM: code; functions. -/
import Derived.Test.YtdjdjnmccphbjaaEngL2
namespace Go.Proofs.Ytdjdjnmccphbjaa.E
open Go.RowKit

section
variable {P : Program} {B : Nat} {W0 : World} {nt : Nat}

def codeOk (P : Program) (nt : Nat) : Code → Bool
  | .skip | .exit _ | .ret => true
  | .region _ ops d => ops.toList.all (operOk nt) && (!d || (drawOk ops && P.follows .mixedOrders))
  | .seq a b => codeOk P nt a && codeOk P nt b
  | .cond c x y => okOpd c && codeOk P nt x && codeOk P nt y
  | .block _ c => codeOk P nt c
  | .loop c => codeOk P nt c
  | _ => false

theorem region_sound (T : TypesOk P) {ρ0 : Nat → Option Place} {ok0 : Nat → Prop} {w0 : World} {n0 : Nat} {id : Nat} {ops : Array Oper} (hok : (ops.toList.all (operOk nt)) = true) {Q : St → Prop} {st : St} {a : Act} {w : World} (S : Since B W0 nt ρ0 ok0 w0 n0 st a w)
    (hr : runR P false ops st.n ops.toList 0 Q ⟨st.t, st.h, st.n + 4 * ops.size⟩) {Qc : Exit → Act → World → Prop} (hQ : ∀ st a w, Q st → Since B W0 nt ρ0 ok0 w0 n0 st a w → Qc .normal a w) : (Code.region id ops false).wp P Qc a w := by
  obtain ⟨ρ, ok, R, x, hn⟩ := S
  have R' : Rl B W0 ρ ok nt ⟨st.t, st.h, st.n + 4 * ops.size⟩ a w := ⟨⟨R.heap.below, R.heap.base, R.heap.okb, fun i hi => R.heap.fresh i (by simp only at hi; omega), R.heap.row, R.heap.inj⟩, R.tmps, R.size, R.defers⟩
  exact wp_region_list (list_sound (base := st.n) (len := ops.size) T hn hQ ops.toList 0 _ a w ρ ok (by simp) hok R' x (Nat.le_refl _) (fun i h1 h2 => R.heap.fresh i (by omega)) hr)

theorem exists_least {p : Nat → Prop} (h : ∃ k, p k) : ∃ k, p k ∧ ∀ j, p j → k ≤ j := by
  obtain ⟨k, hk⟩ := h
  induction k using Nat.strongRecOn with
  | _ k ih =>
    by_cases h : ∃ j, j < k ∧ p j
    · obtain ⟨j, hj, hp⟩ := h
      exact ih j hj hp
    · exact ⟨k, hk, fun j hj => by
        rcases Nat.lt_or_ge j k with g | g
        · exact absurd ⟨j, g, hj⟩ h
        · exact g⟩

open Classical in
/-- the least measure of a state that stands for this -/
noncomputable def least (I : St → Prop) (S : St → Act → World → Prop) (m : St → Nat) (a : Act) (w : World) : Nat :=
  if h : ∃ k, ∃ st, I st ∧ S st a w ∧ m st = k then Classical.choose (exists_least h) else 0
theorem least_spec {I : St → Prop} {S : St → Act → World → Prop} {m : St → Nat} {a : Act} {w : World} {st : St} (hi : I st) (hs : S st a w) : (∃ st', I st' ∧ S st' a w ∧ m st' = least I S m a w) ∧ least I S m a w ≤ m st := by
  have h : ∃ k, ∃ st, I st ∧ S st a w ∧ m st = k := ⟨_, st, hi, hs, rfl⟩
  have e : least I S m a w = Classical.choose (exists_least h) := by unfold least; rw [dif_pos h]
  obtain ⟨h1, h2⟩ := Classical.choose_spec (exists_least h)
  rw [e]
  exact ⟨h1, h2 _ ⟨st, hi, hs, rfl⟩⟩

theorem code_sound (T : TypesOk P) {ρ0 : Nat → Option Place} {ok0 : Nat → Prop} {w0 : World} {n0 : Nat} : ∀ (c : Code) (Q : Exit → St → Prop) (st : St) (a : Act) (w : World), codeOk P nt c = true → Since B W0 nt ρ0 ok0 w0 n0 st a w → wp0 P c Q st →
    c.wp P (fun e a w => ∃ st, Q e st ∧ Since B W0 nt ρ0 ok0 w0 n0 st a w) a w := by
  intro c
  induction c with
  | skip => intro Q st a w _ S h; exact wp_skip ⟨st, h, S⟩
  | region id ops d =>
    intro Q st a w hok S h
    simp only [codeOk, Bool.and_eq_true] at hok
    cases d with
    | false => exact region_sound T hok.1 S h fun st a w hq S => ⟨st, hq, S⟩
    | true =>
      have h2 := hok.2
      simp only [Bool.not_true, Bool.false_or, Bool.and_eq_true] at h2
      exact draw_sound T h2.2 h2.1 hok.1 S h fun st a w hq S => ⟨st, hq, S⟩
  | seq x y ihx ihy =>
    intro Q st a w hok S h
    simp only [codeOk, Bool.and_eq_true] at hok
    refine wp_seq (wp_mono (ihx _ st a w hok.1 S h) ?_)
    rintro e a' w' ⟨st', hq, S'⟩
    cases e with
    | normal => exact ihy Q st' a' w' hok.2 S' hq
    | exit id => exact ⟨st', hq, S'⟩
    | goto l => exact ⟨st', hq, S'⟩
    | ret => exact ⟨st', hq, S'⟩
    | panic c => exact ⟨st', hq, S'⟩
    | outgrown => exact ⟨st', hq, S'⟩
  | cond c x y ihx ihy =>
    intro Q st a w hok S h
    simp only [codeOk, Bool.and_eq_true] at hok
    obtain ⟨b, hb, hbr⟩ := h
    have hv : a.eval c = .bool b := by
      obtain ⟨ρ, ok, R, _, _⟩ := S
      have := ev_sound R hok.1.1
      unfold boolOf at hb
      split at hb
      · rename_i b' heq
        rw [heq] at this
        cases hb
        exact V_at this
      · cases hb
    refine wp_cond hv ?_
    cases b with
    | true => exact ihx Q st a w hok.1.2 S hbr
    | false => exact ihy Q st a w hok.2 S hbr
  | block id c ih =>
    intro Q st a w hok S h
    refine wp_block (wp_mono (ih _ st a w hok S h) ?_)
    rintro e a' w' ⟨st', hq, S'⟩
    cases e with
    | exit k =>
      simp only [Exit.inBlock]
      simp only [blockA] at hq
      split
      · rename_i hk; rw [if_pos hk] at hq; exact ⟨st', hq, S'⟩
      · rename_i hk; rw [if_neg hk] at hq; exact ⟨st', hq, S'⟩
    | normal => exact ⟨st', hq, S'⟩
    | goto l => exact ⟨st', hq, S'⟩
    | ret => exact ⟨st', hq, S'⟩
    | panic c => exact ⟨st', hq, S'⟩
    | outgrown => exact ⟨st', hq, S'⟩
  | loop c ih =>
    intro Q st a w hok S h
    obtain ⟨I, m, h0, hround⟩ := h
    refine wp_loop (fun a w => ∃ st, I st ∧ Since B W0 nt ρ0 ok0 w0 n0 st a w) (least I (Since B W0 nt ρ0 ok0 w0 n0) m) ⟨st, h0, S⟩ ?_
    rintro a w ⟨s, hi, hs⟩
    obtain ⟨⟨s', hi', hs', hm'⟩, -⟩ := least_spec (m := m) hi hs
    refine wp_mono (ih _ s' a w hok hs' (hround s' hi')) ?_
    rintro e a' w' ⟨st', hq, S'⟩
    cases e with
    | normal =>
      refine ⟨⟨st', hq.1, S'⟩, ?_⟩
      have := (least_spec (m := m) hq.1 S').2
      have := hq.2
      omega
    | exit id => exact ⟨st', hq, S'⟩
    | goto l => exact ⟨st', hq, S'⟩
    | ret => exact ⟨st', hq, S'⟩
    | panic c => exact ⟨st', hq, S'⟩
    | outgrown => exact ⟨st', hq, S'⟩
  | exit id => intro Q st a w _ S h; exact wp_exit ⟨st, h, S⟩
  | ret => intro Q st a w _ S h; exact wp_ret ⟨st, h, S⟩
  | rangeFunc => intro Q st a w hok; simp [codeOk] at hok
  | scope => intro Q st a w hok; simp [codeOk] at hok
  | label => intro Q st a w hok; simp [codeOk] at hok
  | goto => intro Q st a w hok; simp [codeOk] at hok
  | refuse => intro Q st a w hok; simp [codeOk] at hok

theorem loadVar_ptr {ρ : Nat → Option Place} {ok : Nat → Prop} {w : World} {h : Heap} {n : Nat} (H : HRel B W0 ρ ok h n w) {t : TypeId} {x r : AV} {u : Value} (hx : V B ρ ok w x u) (e : loadA P h t x = some r) :
    ∃ z, (do loadVar t (← asAddr u) : Sem Value).run P w = .ok z w ∧ V B ρ ok w r z := by
  obtain ⟨z, h1, h2⟩ := load_sound H hx e
  refine ⟨z, ?_, h2⟩
  have hp : ∃ ad, u = .pointer (some ad) := by
    unfold loadA at e
    split at e
    · cases e
    · split at e
      · obtain ⟨b, off, e1, -⟩ := cellsAt_rp hx; exact ⟨_, e1⟩
      · cases hx with | ptr hp => exact ⟨_, rfl⟩
      · cases e
  obtain ⟨ad, rfl⟩ := hp
  simpa [Instr.loadAt, Instr.sureAddr, asAddr] using h1

/-- one result -/
theorem res_sound {ρ : Nat → Option Place} {ok : Nat → Prop} {w : World} {st : St} {a : Act} (R : Rl B W0 ρ ok nt st a w) {x : ResultVar} {r : AV} (h : resA P st x = some r) :
    ∃ z, (match x with | .tmp t => pure (a.tmps.getD t undef) | .cell p t => do loadVar t (← asAddr (a.tmps.getD p undef)) : Sem Value).run P w = .ok z w ∧ V B ρ ok w r z := by
  cases x with
  | tmp k =>
    simp only [resA, Option.some.injEq] at h
    subst h
    exact ⟨_, rfl, R.tmps k⟩
  | cell p t => exact loadVar_ptr R.heap (R.tmps p) h

theorem mapM_inv {α β : Type} {f : α → Option β} {x : α} {l : List α} {rs : List β} (h : (x :: l).mapM f = some rs) : ∃ r rest, f x = some r ∧ l.mapM f = some rest ∧ rs = r :: rest := by
  simp only [List.mapM_cons, Option.bind_eq_bind, Option.pure_def] at h
  cases hx : f x with
  | none => simp [hx] at h
  | some r =>
    cases hr : l.mapM f with
    | none => simp [hx, hr] at h
    | some rest =>
      simp [hx, hr] at h
      exact ⟨r, rest, rfl, rfl, h.symm⟩

theorem resl_sound {ρ : Nat → Option Place} {ok : Nat → Prop} {w : World} {st : St} {a : Act} (R : Rl B W0 ρ ok nt st a w) : ∀ {l : List ResultVar} {rs : List AV}, l.mapM (resA P st) = some rs →
    ∃ zs : List Value, (l.mapM fun (x : ResultVar) => (match x with | .tmp t => pure (a.tmps.getD t undef) | .cell p t => do loadVar t (← asAddr (a.tmps.getD p undef)) : Sem Value)).run P w = .ok zs w ∧ VL B ρ ok w rs zs
  | [], rs, h => by simp at h; subst h; exact ⟨[], rfl, rfl, by simp⟩
  | x :: l, rs, h => by
    obtain ⟨r, rest, hx, hr, rfl⟩ := mapM_inv h
    obtain ⟨z, h1, h2⟩ := res_sound R hx
    obtain ⟨zs, g1, g2, g3⟩ := resl_sound R hr
    refine ⟨z :: zs, ?_, by simp [g2], fun j c u hc hu => ?_⟩
    · rw [List.mapM_cons, Sem.run_bind, h1]
      simp only [Result.andThen_ok]
      rw [Sem.run_bind, g1]
      rfl
    · cases j with
      | zero => simp at hc hu; subst hc; subst hu; exact h2
      | succ j => exact g3 j c u (by simpa using hc) (by simpa using hu)

theorem results_sound {ρ : Nat → Option Place} {ok : Nat → Prop} {w : World} {st : St} {a : Act} (R : Rl B W0 ρ ok nt st a w) {fn : Func} {r : AV} (h : resultsA P fn.results.toList st = some r) :
    ∃ z, (results fn a.tmps).run P w = .ok z w ∧ V B ρ ok w r z := by
  have hrun : ∀ {zs : List Value}, (fn.results.toList.mapM fun (x : ResultVar) => (match x with | .tmp t => pure (a.tmps.getD t undef) | .cell p t => do loadVar t (← asAddr (a.tmps.getD p undef)) : Sem Value)).run P w = .ok zs w →
      (results fn a.tmps).run P w = .ok (if h : zs.toArray.size = 1 then zs.toArray[0] else .tuple zs.toArray) w := by
    intro zs hz
    unfold results
    rw [Array.mapM_eq_mapM_toList]
    simp only [Array.getD_eq_getD_getElem?] at hz ⊢
    simp
    exact (congrArg (fun q => Result.andThen q fun a w' => Result.ok (if h : a.length = 1 then a[0] else Value.tuple a.toArray) w') hz)
  unfold resultsA at h
  split at h
  · rename_i x hx
    obtain ⟨z, h1, h2⟩ := res_sound R h
    refine ⟨z, ?_, h2⟩
    rw [hrun (zs := [z])]
    · simp
    · rw [hx, List.mapM_cons, Sem.run_bind, h1]
      rfl
  · rename_i l hne
    cases hm : fn.results.toList.mapM (resA P st) with
    | none => rw [hm] at h; cases h
    | some rs =>
      rw [hm] at h
      cases h
      obtain ⟨zs, g1, g2⟩ := resl_sound R hm
      refine ⟨.tuple zs.toArray, ?_, .tup g2.1 g2.2⟩
      rw [hrun g1]
      have : ¬ zs.toArray.size = 1 := by
        intro e
        have hl : fn.results.toList.length = 1 := by
          have := mapM_length hm
          have := g2.1
          simp at e; omega
        obtain ⟨x, hx⟩ := List.length_eq_one_iff.1 hl
        exact hne x hx
      rw [dif_neg this]

/-- a function is entered -/
theorem CS_inline (T : TypesOk P) {f : FuncId} {fn : Func} {c : Code} {args : List AV} {h : Heap} {n : Nat} {Q : Heap → Nat → AV → Prop} (hf : P.funcs[f]? = some fn) (hc : Callable P f) (hb : fn.body = some c) (hok : codeOk P fn.ntmps c = true) (hl : args.length ≤ fn.ntmps)
    (hw : wpA P c (endA P fn.results.toList Q ⟨⟩) ⟨⟩ ⟨⟩ ⟨initT args, h, n⟩) : CS P f args h n Q := by
  refine ⟨hc, fun B W0 ρ ok w vs H hv => ?_⟩
  refine calls_of_wp hf hb ?_
  have hlen := hv.1
  have R : Rl B W0 ρ ok fn.ntmps ⟨initT args, h, n⟩ { tmps := vs.toArray ++ Array.replicate (fn.ntmps - vs.toArray.size) undef, defers := [] } w := by
    refine ⟨H, fun k => ?_, by simp; omega, rfl⟩
    show V B ρ ok w ((args[k]?).getD .und) _
    by_cases hk : k < args.length
    · obtain ⟨c, hc⟩ : ∃ c, args[k]? = some c := ⟨args[k], by simp⟩
      obtain ⟨u, hu⟩ : ∃ u, vs[k]? = some u := ⟨vs[k]'(by omega), by simp⟩
      have e : (vs.toArray ++ Array.replicate (fn.ntmps - vs.toArray.size) undef).getD k undef = u := by
        have : k < vs.length := by omega
        obtain ⟨g1, g2⟩ := List.getElem?_eq_some_iff.1 hu
        simp [Array.getElem?_append, this, g2]
      rw [hc, e]
      exact hv.2 k c u hc hu
    · have e1 : args[k]? = none := by simp; omega
      have e2 : (vs.toArray ++ Array.replicate (fn.ntmps - vs.toArray.size) undef).getD k undef = undef := by
        have : ¬ k < vs.length := by omega
        simp only [Array.getD_eq_getD_getElem?, Array.getElem?_append]
        simp [this]
        by_cases h2 : k - vs.length < fn.ntmps - vs.length <;> simp [h2]
      rw [e1, e2]
      exact .und
  refine wp_mono (code_sound T c _ _ _ w hok ⟨ρ, ok, R, Ext.refl _ _ _ _, Nat.le_refl _⟩ hw) ?_
  rintro e a' w' ⟨st', hq, ρ', ok', R', x, hn⟩
  have fin : ∀ r, resultsA P fn.results.toList st' = some r → Q st'.h st'.n r → a'.defers = [] ∧ ∃ v, (results fn a'.tmps).run P w' = .ok v w' ∧ ∃ v_1 h' n' r ρ' ok', Ending.returned v = .returned v_1 ∧ Q h' n' r ∧ n ≤ n' ∧ HRel B W0 ρ' ok' h' n' w' ∧ V B ρ' ok' w' r v_1 ∧ Ext (fun i => n ≤ i) ρ ρ' ok ok' w w' := by
    intro r hr hq
    obtain ⟨z, h1, h2⟩ := results_sound R' hr
    exact ⟨R'.defers, z, h1, z, _, _, r, ρ', ok', rfl, hq, hn, R'.heap, h2, x⟩
  cases e with
  | normal => obtain ⟨r, hr, hq⟩ := hq; exact fin r hr hq
  | ret => obtain ⟨r, hr, hq⟩ := hq; exact fin r hr hq
  | exit id => exact hq.elim
  | goto l => exact hq.elim
  | panic c => exact hq.elim
  | outgrown => exact hq.elim

end
end Go.Proofs.Ytdjdjnmccphbjaa.E
