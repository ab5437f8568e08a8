/- X3: EngM: code; functions. EngN: what a function promises, out of its text. EngO: a value may be read as less than is known of it: nothing at all as an empty list, what is new as what is not. EngP: what code leaves alone; loops. EngRn: the engine's run as a rule, with facts; a function entered, in short. (Used where a claim is made shorter: mini.py.) -/
import Derived.Test.YtadmfokicjjglaaGreatDoorX2
namespace Go.Proofs.YtadmfokicjjglaaGreatDoor.E
open Go.RowKit
section
variable {P : Program} {B : Nat} {W0 : World} {nt : Nat}
def codeOk (P : Program) (nt : Nat) : Code -> Bool
 | .skip | .exit _ | .ret => true
 | .region _ ops d => ops.toList.all (operOk nt) && (!d || (drawOk ops && P.follows .mixedOrders))
 | .seq a b => codeOk P nt a && codeOk P nt b
 | .cond c x y => okOpd c && codeOk P nt x && codeOk P nt y
 | .block _ c => codeOk P nt c
 | .loop c => codeOk P nt c
 | _ => false
theorem region_sound (T : TypesOk P) {ρ0 : Nat -> Option Place} {ok0 : Nat -> Prop} {w0 : World} {n0 : Nat} {id : Nat} {ops : Array Oper} (hok : (ops.toList.all (operOk nt)) = true) {Q : St -> Prop} {st : St} {a : Act} {w : World} (S : Since B W0 nt ρ0 ok0 w0 n0 st a w)
  (hr : runR P false ops st.n ops.toList 0 Q ⟨st.t, st.h, st.n + 4 * ops.size⟩) {Qc : Exit -> Act -> World -> Prop} (hQ : ∀ st a w, Q st -> Since B W0 nt ρ0 ok0 w0 n0 st a w -> Qc .normal a w) : (Code.region id ops false).wp P Qc a w := by
 obtain ⟨ρ, ok, R, x, hn⟩ := S;have R' : Rl B W0 ρ ok nt ⟨st.t, st.h, st.n + 4 * ops.size⟩ a w := ⟨⟨R.heap.below, R.heap.base, R.heap.okb, fun i hi => R.heap.fresh i (by simp only at hi; omega), R.heap.row, R.heap.inj⟩, R.tmps, R.size, R.defers⟩;exact wp_region_list (list_sound (base := st.n) (len := ops.size) T hn hQ ops.toList 0 _ a w ρ ok (by simp) hok R' x (Nat.le_refl _) (fun i h1 h2 => R.heap.fresh i (by omega)) hr)
theorem exists_least {p : Nat -> Prop} (h : ∃ k, p k) : ∃ k, p k /\ ∀ j, p j -> k <= j := by
 obtain ⟨k, hk⟩ := h
 induction k using Nat.strongRecOn with
 | _ k ih =>
  by_cases h : ∃ j, j < k /\ p j
  ·obtain ⟨j, hj, hp⟩ := h;exact ih j hj hp
  ·exact ⟨k, hk, fun j hj => by
    rcases Nat.lt_or_ge j k with g | g
    ·exact absurd ⟨j, g, hj⟩ h
    ·exact g⟩
open Classical in
noncomputable def least (I : St -> Prop) (S : St -> Act -> World -> Prop) (m : St -> Nat) (a : Act) (w : World) : Nat :=
 if h : ∃ k, ∃ st, I st /\ S st a w /\ m st = k then Classical.choose (exists_least h) else 0
theorem least_spec {I : St -> Prop} {S : St -> Act -> World -> Prop} {m : St -> Nat} {a : Act} {w : World} {st : St} (hi : I st) (hs : S st a w) : (∃ st', I st' /\ S st' a w /\ m st' = least I S m a w) /\ least I S m a w <= m st := by
 have h : ∃ k, ∃ st, I st /\ S st a w /\ m st = k := ⟨_, st, hi, hs, rfl⟩;have e : least I S m a w = Classical.choose (exists_least h) := by unfold least; rw [dif_pos h]
 obtain ⟨h1, h2⟩ := Classical.choose_spec (exists_least h);rw [e];exact ⟨h1, h2 _ ⟨st, hi, hs, rfl⟩⟩
theorem code_sound (T : TypesOk P) {ρ0 : Nat -> Option Place} {ok0 : Nat -> Prop} {w0 : World} {n0 : Nat} : ∀ (c : Code) (Q : Exit -> St -> Prop) (st : St) (a : Act) (w : World), codeOk P nt c = true -> Since B W0 nt ρ0 ok0 w0 n0 st a w -> wp0 P c Q st ->
  c.wp P (fun e a w => ∃ st, Q e st /\ Since B W0 nt ρ0 ok0 w0 n0 st a w) a w := by
 intro c
 induction c with
 | skip => intro Q st a w _ S h; exact wp_skip ⟨st, h, S⟩
 | region id ops d =>
  intro Q st a w hok S h;simp only [codeOk, Bool.and_eq_true] at hok;cases d with
  | false => exact region_sound T hok.1 S h fun st a w hq S => ⟨st, hq, S⟩
  | true =>
   have h2 := hok.2;simp only [Bool.not_true, Bool.false_or, Bool.and_eq_true] at h2;exact draw_sound T h2.2 h2.1 hok.1 S h fun st a w hq S => ⟨st, hq, S⟩
 | seq x y ihx ihy =>
  intro Q st a w hok S h;simp only [codeOk, Bool.and_eq_true] at hok;refine wp_seq (wp_mono (ihx _ st a w hok.1 S h) ?_);rintro e a' w' ⟨st', hq, S'⟩;cases e with
  | normal => exact ihy Q st' a' w' hok.2 S' hq
  | exit id => exact ⟨st', hq, S'⟩
  | goto l => exact ⟨st', hq, S'⟩
  | ret => exact ⟨st', hq, S'⟩
  | panic c => exact ⟨st', hq, S'⟩
  | outgrown => exact ⟨st', hq, S'⟩
 | cond c x y ihx ihy =>
  intro Q st a w hok S h;simp only [codeOk, Bool.and_eq_true] at hok;obtain ⟨b, hb, hbr⟩ := h
  have hv : a.eval c = .bool b := by
   obtain ⟨ρ, ok, R, _, _⟩ := S;have := ev_sound R hok.1.1;unfold boolOf at hb;split at hb
   ·rename_i b' heq;rw [heq] at this;cases hb;exact V_at this
   ·cases hb
  refine wp_cond hv ?_;cases b with
  | true => exact ihx Q st a w hok.1.2 S hbr
  | false => exact ihy Q st a w hok.2 S hbr
 | block id c ih =>
  intro Q st a w hok S h;refine wp_block (wp_mono (ih _ st a w hok S h) ?_);rintro e a' w' ⟨st', hq, S'⟩;cases e with
  | exit k =>
   simp only [Exit.inBlock];simp only [blockA] at hq;split
   ·rename_i hk; rw [if_pos hk] at hq; exact ⟨st', hq, S'⟩
   ·rename_i hk; rw [if_neg hk] at hq; exact ⟨st', hq, S'⟩
  | normal => exact ⟨st', hq, S'⟩
  | goto l => exact ⟨st', hq, S'⟩
  | ret => exact ⟨st', hq, S'⟩
  | panic c => exact ⟨st', hq, S'⟩
  | outgrown => exact ⟨st', hq, S'⟩
 | loop c ih =>
  intro Q st a w hok S h;obtain ⟨I, m, h0, hround⟩ := h;refine wp_loop (fun a w => ∃ st, I st /\ Since B W0 nt ρ0 ok0 w0 n0 st a w) (least I (Since B W0 nt ρ0 ok0 w0 n0) m) ⟨st, h0, S⟩ ?_;rintro a w ⟨s, hi, hs⟩;obtain ⟨⟨s', hi', hs', hm'⟩, -⟩ := least_spec (m := m) hi hs;refine wp_mono (ih _ s' a w hok hs' (hround s' hi')) ?_;rintro e a' w' ⟨st', hq, S'⟩;cases e with
  | normal =>
   refine ⟨⟨st', hq.1, S'⟩, ?_⟩;have := (least_spec (m := m) hq.1 S').2;have := hq.2;omega
  | exit id => exact ⟨st', hq, S'⟩
  | goto l => exact ⟨st', hq, S'⟩
  | ret => exact ⟨st', hq, S'⟩
  | panic c => exact ⟨st', hq, S'⟩
  | outgrown => exact ⟨st', hq, S'⟩
 | exit id => intro Q st a w _ S h; exact wp_exit ⟨st, h, S⟩
 | ret => intro Q st a w _ S h; exact wp_ret ⟨st, h, S⟩
 | rangeFunc => intro Q st a w hok; simp [codeOk] at hok
 | scope => intro Q st a w hok; simp [codeOk] at hok
 | label => intro Q st a w hok; simp [codeOk] at hok
 | goto => intro Q st a w hok; simp [codeOk] at hok
 | refuse => intro Q st a w hok; simp [codeOk] at hok
theorem loadVar_ptr {ρ : Nat -> Option Place} {ok : Nat -> Prop} {w : World} {h : Heap} {n : Nat} (H : HRel B W0 ρ ok h n w) {t : TypeId} {x r : AV} {u : Value} (hx : V B ρ ok w x u) (e : loadA P h t x = some r) :
  ∃ z, (do loadVar t (<- asAddr u) : Sem Value).run P w = .ok z w /\ V B ρ ok w r z := by
 obtain ⟨z, h1, h2⟩ := load_sound H hx e;refine ⟨z, ?_, h2⟩
 have hp : ∃ ad, u = .pointer (some ad) := by
  unfold loadA at e;split at e
  ·cases e
  ·split at e
   ·obtain ⟨b, off, e1, -⟩ := cellsAt_rp hx; exact ⟨_, e1⟩
   ·cases hx with | ptr hp => exact ⟨_, rfl⟩
   ·cases e
 obtain ⟨ad, rfl⟩ := hp;simpa [Instr.loadAt, Instr.sureAddr, asAddr] using h1
theorem res_sound {ρ : Nat -> Option Place} {ok : Nat -> Prop} {w : World} {st : St} {a : Act} (R : Rl B W0 ρ ok nt st a w) {x : ResultVar} {r : AV} (h : resA P st x = some r) :
  ∃ z, (match x with | .tmp t => pure (a.tmps.getD t undef) | .cell p t => do loadVar t (<- asAddr (a.tmps.getD p undef)) : Sem Value).run P w = .ok z w /\ V B ρ ok w r z := by
 cases x with
 | tmp k =>
  simp only [resA, Option.some.injEq] at h;subst h;exact ⟨_, rfl, R.tmps k⟩
 | cell p t => exact loadVar_ptr R.heap (R.tmps p) h
theorem mapM_inv {α β : Type} {f : α -> Option β} {x : α} {l : List α} {rs : List β} (h : (x :: l).mapM f = some rs) : ∃ r rest, f x = some r /\ l.mapM f = some rest /\ rs = r :: rest := by
 simp only [List.mapM_cons, Option.bind_eq_bind, Option.pure_def] at h;cases hx : f x with
 | none => simp [hx] at h
 | some r =>
  cases hr : l.mapM f with
  | none => simp [hx, hr] at h
  | some rest =>
   simp [hx, hr] at h;exact ⟨r, rest, rfl, rfl, h.symm⟩
theorem resl_sound {ρ : Nat -> Option Place} {ok : Nat -> Prop} {w : World} {st : St} {a : Act} (R : Rl B W0 ρ ok nt st a w) : ∀ {l : List ResultVar} {rs : List AV}, l.mapM (resA P st) = some rs ->
  ∃ zs : List Value, (l.mapM fun (x : ResultVar) => (match x with | .tmp t => pure (a.tmps.getD t undef) | .cell p t => do loadVar t (<- asAddr (a.tmps.getD p undef)) : Sem Value)).run P w = .ok zs w /\ VL B ρ ok w rs zs
 | [], rs, h => by simp at h; subst h; exact ⟨[], rfl, rfl, by simp⟩
 | x :: l, rs, h => by
  obtain ⟨r, rest, hx, hr, rfl⟩ := mapM_inv h;obtain ⟨z, h1, h2⟩ := res_sound R hx;obtain ⟨zs, g1, g2, g3⟩ := resl_sound R hr;refine ⟨z :: zs, ?_, by simp [g2], fun j c u hc hu => ?_⟩
  ·rw [List.mapM_cons, Sem.run_bind, h1];simp only [Result.andThen_ok];rw [Sem.run_bind, g1];rfl
  ·cases j with
   | zero => simp at hc hu; subst hc; subst hu; exact h2
   | succ j => exact g3 j c u (by simpa using hc) (by simpa using hu)
theorem results_sound {ρ : Nat -> Option Place} {ok : Nat -> Prop} {w : World} {st : St} {a : Act} (R : Rl B W0 ρ ok nt st a w) {fn : Func} {r : AV} (h : resultsA P fn.results.toList st = some r) :
  ∃ z, (results fn a.tmps).run P w = .ok z w /\ V B ρ ok w r z := by
 have hrun : ∀ {zs : List Value}, (fn.results.toList.mapM fun (x : ResultVar) => (match x with | .tmp t => pure (a.tmps.getD t undef) | .cell p t => do loadVar t (<- asAddr (a.tmps.getD p undef)) : Sem Value)).run P w = .ok zs w ->
   (results fn a.tmps).run P w = .ok (if h : zs.toArray.size = 1 then zs.toArray[0] else .tuple zs.toArray) w := by
  intro zs hz;unfold results;rw [Array.mapM_eq_mapM_toList];simp only [Array.getD_eq_getD_getElem?] at hz ⊢;simp;exact (congrArg (fun q => Result.andThen q fun a w' => Result.ok (if h : a.length = 1 then a[0] else Value.tuple a.toArray) w') hz)
 unfold resultsA at h;split at h
 ·rename_i x hx;obtain ⟨z, h1, h2⟩ := res_sound R h;refine ⟨z, ?_, h2⟩;rw [hrun (zs := [z])]
  ·simp
  ·rw [hx, List.mapM_cons, Sem.run_bind, h1];rfl
 ·rename_i l hne;cases hm : fn.results.toList.mapM (resA P st) with
  | none => rw [hm] at h; cases h
  | some rs =>
   rw [hm] at h;cases h;obtain ⟨zs, g1, g2⟩ := resl_sound R hm;refine ⟨.tuple zs.toArray, ?_, .tup g2.1 g2.2⟩;rw [hrun g1]
   have : ¬ zs.toArray.size = 1 := by
    intro e
    have hl : fn.results.toList.length = 1 := by
     have := mapM_length hm;have := g2.1;simp at e; omega
    obtain ⟨x, hx⟩ := List.length_eq_one_iff.1 hl;exact hne x hx
   rw [dif_neg this]
theorem CS_inline (T : TypesOk P) {f : FuncId} {fn : Func} {c : Code} {args : List AV} {h : Heap} {n : Nat} {Q : Heap -> Nat -> AV -> Prop} (hf : P.funcs[f]? = some fn) (hc : Callable P f) (hb : fn.body = some c) (hok : codeOk P fn.ntmps c = true) (hl : args.length <= fn.ntmps)
  (hw : wpA P c (endA P fn.results.toList Q ⟨⟩) ⟨⟩ ⟨⟩ ⟨initT args, h, n⟩) : CS P f args h n Q := by
 refine ⟨hc, fun B W0 ρ ok w vs H hv => ?_⟩;refine calls_of_wp hf hb ?_;have hlen := hv.1
 have R : Rl B W0 ρ ok fn.ntmps ⟨initT args, h, n⟩ { tmps := vs.toArray ++ Array.replicate (fn.ntmps - vs.toArray.size) undef, defers := [] } w := by
  refine ⟨H, fun k => ?_, by simp; omega, rfl⟩;show V B ρ ok w ((args[k]?).getD .und) _;by_cases hk : k < args.length
  ·obtain ⟨c, hc⟩ : ∃ c, args[k]? = some c := ⟨args[k], by simp⟩;obtain ⟨u, hu⟩ : ∃ u, vs[k]? = some u := ⟨vs[k]'(by omega), by simp⟩
   have e : (vs.toArray ++ Array.replicate (fn.ntmps - vs.toArray.size) undef).getD k undef = u := by
    have : k < vs.length := by omega
    obtain ⟨g1, g2⟩ := List.getElem?_eq_some_iff.1 hu;simp [Array.getElem?_append, this, g2]
   rw [hc, e];exact hv.2 k c u hc hu
  ·have e1 : args[k]? = none := by simp; omega
   have e2 : (vs.toArray ++ Array.replicate (fn.ntmps - vs.toArray.size) undef).getD k undef = undef := by
    have : ¬ k < vs.length := by omega
    simp only [Array.getD_eq_getD_getElem?, Array.getElem?_append];simp [this];by_cases h2 : k - vs.length < fn.ntmps - vs.length <;> simp [h2]
   rw [e1, e2];exact .und
 refine wp_mono (code_sound T c _ _ _ w hok ⟨ρ, ok, R, Ext.refl _ _ _ _, Nat.le_refl _⟩ hw) ?_;rintro e a' w' ⟨st', hq, ρ', ok', R', x, hn⟩
 have fin : ∀ r, resultsA P fn.results.toList st' = some r -> Q st'.h st'.n r -> a'.defers = [] /\ ∃ v, (results fn a'.tmps).run P w' = .ok v w' /\ ∃ v_1 h' n' r ρ' ok', Ending.returned v = .returned v_1 /\ Q h' n' r /\ n <= n' /\ HRel B W0 ρ' ok' h' n' w' /\ V B ρ' ok' w' r v_1 /\ Ext (fun i => n <= i) ρ ρ' ok ok' w w' := by
  intro r hr hq;obtain ⟨z, h1, h2⟩ := results_sound R' hr;exact ⟨R'.defers, z, h1, z, _, _, r, ρ', ok', rfl, hq, hn, R'.heap, h2, x⟩
 cases e with
 | normal => obtain ⟨r, hr, hq⟩ := hq; exact fin r hr hq
 | ret => obtain ⟨r, hr, hq⟩ := hq; exact fin r hr hq
 | exit id => exact hq.elim
 | goto l => exact hq.elim
 | panic c => exact hq.elim
 | outgrown => exact hq.elim
end
end Go.Proofs.YtadmfokicjjglaaGreatDoor.E
namespace Go.Proofs.YtadmfokicjjglaaGreatDoor.E
open Go.RowKit
def canonLeaf : AV -> Bool
 | .und | .nilv | .nn | .at _ | .nl => true
 | .lst fr _ _ => !fr
 | .fn _ l => l.isEmpty
 | _ => false
def canonV : AV -> Bool
 | .agg l => l.all canonLeaf
 | a => canonLeaf a
section
variable {P : Program} {B : Nat} {W0 : World} {ρ : Nat -> Option Place} {ok : Nat -> Prop} {w : World} {h : Heap} {n : Nat}
theorem canonLeaf_up {F : Nat -> Prop} {a : AV} {v : Value} (hc : canonLeaf a = true) (hv : V 0 noPlace F w a v) (B : Nat) : V B noPlace F w a v := by
 cases a <;> simp [canonLeaf] at hc
 ·cases hv; exact .und
 ·cases hv; exact .nilv
 ·cases hv with | nn h1 => exact .nn h1
 ·cases hv with | «at» h1 => exact .at h1
 ·cases hv; exact .nl
 ·subst hc;cases hv with | lst hp => exact .lst (hp.mono fun b hb => ⟨⟨hb.1, fun e => by cases e⟩, rfl⟩)
 ·subst hc;cases hv with | fn h1 h2 => exact .fn h1 (by simp)
theorem canon_up {F : Nat -> Prop} {a : AV} {v : Value} (hc : canonV a = true) (hv : V 0 noPlace F w a v) (B : Nat) : V B noPlace F w a v := by
 unfold canonV at hc;split at hc
 ·rename_i l;cases hv with
  | agg h1 h2 h3 => exact .agg h1 h2 fun j c u hcj hu => canonLeaf_up (List.all_eq_true.1 hc c (List.mem_of_getElem? hcj)) (h3 j c u hcj hu) B
 ·exact canonLeaf_up hc hv B
theorem idxOf_get {l : List Nat} {i j : Nat} (h : l.idxOf? i = some j) : l[j]? = some i := by
 rw [List.idxOf?, List.findIdx?_eq_some_iff_getElem] at h;obtain ⟨h1, h2, _⟩ := h;rw [List.getElem?_eq_getElem h1];simpa using h2
theorem plain_up {ρ2 : Nat -> Option Place} {ok2 : Nat -> Prop} {c : AV} {u : Value} (hp : plainCell c = true) (hk : ∀ b, ok b -> ok2 b) (hv : V B ρ ok w c u) : V B ρ2 ok2 w c u := by
 cases c <;> simp [plainCell] at hp
 ·cases hv with | «at» h1 => exact .at h1
 ·cases hv; exact .nl
 ·cases hv with | lst hp => exact .lst (hp.mono fun b hb => ⟨⟨hk b hb.1, hb.2⟩, rfl⟩)
theorem outLeaf_sound (H : HRel B W0 ρ ok h n w) {keep : List Nat} {a a' : AV} {v : Value} (he : outLeaf h keep a = some a') (hv : V B ρ ok w a v) :
  V B (fun j => (keep[j]?).bind ρ) (Shown ρ ok h keep) w a' v := by
 unfold outLeaf at he;split at he
 ·cases he; cases hv; exact .und
 ·cases he; cases hv with | «at» h1 => exact .at h1
 ·cases he; cases hv; exact .nl
 ·cases he; cases hv; exact .nl
 ·cases he; cases hv with | lst hp => exact .lst (hp.mono fun b hb => ⟨⟨Or.inl hb.1, hb.2⟩, rfl⟩)
 ·rename_i i o m;split at he
  ·rename_i j hj;cases he;have hg := idxOf_get hj;cases hv with
   | own0 hp => exact .own0 (by simp [hg, hp])
   | own hp h1 h2 => exact .own (by simp [hg, hp]) h1 h2
  ·rename_i hk;split at he
   ·rename_i e fr s rows hen hl;cases he;by_cases hfr : (e.rows.all fun r => r.all freshCell) = true
    ·rw [hfr];refine .lst (PV.mono (F := fun b => Shown ρ ok h keep b /\ B <= b) ?_ fun b hb => ⟨⟨hb.1, fun _ => hb.2⟩, rfl⟩);simp only [leafP] at hl;split at hl
     ·cases hl
     ·rename_i hav;rw [hen] at hl;simp only at hl;split at hl
      ·rename_i hle;cases hm : ((e.rows.drop o).take m).mapM (fun (r : List AV) => r.mapM (leafP h keep 2)) with
       | none => rw [hm] at hl; cases hl
       | some rows' =>
        rw [hm] at hl;cases hl;refine own_show H hen hle hm hv (fun b c s hb => ⟨Or.inr ⟨i, e, c, s, hen, by simpa using hav, hb⟩, ?_⟩) (fun x c' u hx h1 h2 => ?_)
        ·rcases H.row i e hen with ⟨q, _⟩ | ⟨b', cap', cur, p1, p2, _⟩
         ·rw [hb] at q; cases q
         ·rw [hb] at p1;simp only [Option.some.injEq, Prod.mk.injEq] at p1;obtain ⟨rfl, -, -⟩ := p1;exact p2
        ·obtain ⟨row, hrow, hxr⟩ := List.mem_flatten.1 hx;have hf := List.all_eq_true.1 (List.all_eq_true.1 hfr row hrow) x hxr;cases x <;> simp [freshCell] at hf <;> simp [leafP] at h1
         ·subst h1; cases h2 with | «at» h1 => exact .at h1
         ·subst h1; cases h2; exact .nl
         ·subst h1; subst hf; cases h2 with | lst hp => exact hp.mono fun b hb => ⟨⟨Or.inl hb.1, hb.2 rfl⟩, rfl⟩
      ·cases hl
    ·have : (e.rows.all fun r => r.all freshCell) = false := by simpa using hfr
     rw [this];have hp := leafP_sound H hl hv;cases hp with
     | lst g1 g2 g3 g4 g5 g6 g7 g8 => exact .lst (PV.mono (PV.lst g1 g2 g3 g4 g5 g6 g7 g8) fun b hb => ⟨⟨hb, fun e => by cases e⟩, rfl⟩)
   ·cases he
 ·cases he;cases hv with | fn h1 h2 => exact .fn h1 (by simp)
 ·cases he
theorem outAgg_sound (H : HRel B W0 ρ ok h n w) {keep : List Nat} {a a' : AV} {v : Value} (he : outAgg h keep a = some a') (hv : V B ρ ok w a v) :
  V B (fun j => (keep[j]?).bind ρ) (Shown ρ ok h keep) w a' v := by
 unfold outAgg at he;split at he
 ·rename_i l;cases hm : l.mapM (outLeaf h keep) with
  | none => rw [hm] at he; cases he
  | some l' =>
   rw [hm] at he;cases he;cases hv with
   | agg h1 h2 h3 =>
    refine .agg (by rw [mapM_length hm]; exact h1) h2 (fun j c u hc hu => ?_);obtain ⟨x, hx, hfx⟩ := mapM_get hm j c hc;exact outLeaf_sound H hfx (h3 j x u hx hu)
 ·exact outLeaf_sound H he hv
theorem out_sound (H : HRel B W0 ρ ok h n w) {keep : List Nat} {a a' : AV} {v : Value} (he : outV h keep a = some a') (hv : V B ρ ok w a v) :
  V B (fun j => (keep[j]?).bind ρ) (Shown ρ ok h keep) w a' v := by
 unfold outV at he;split at he
 ·rename_i l;cases hm : l.mapM (outAgg h keep) with
  | none => rw [hm] at he; cases he
  | some l' =>
   rw [hm] at he;cases he;cases hv with
   | tup h1 h3 =>
    refine .tup (by rw [mapM_length hm]; exact h1) (fun j c u hc hu => ?_);obtain ⟨x, hx, hfx⟩ := mapM_get hm j c hc;exact outAgg_sound H hfx (h3 j x u hx hu)
 ·exact outAgg_sound H he hv
def Out (S : AV -> AV -> Prop) (keep : List Nat) (r : AV) (news : List HE) (h : Heap) (_ : Nat) (r0 : AV) : Prop := (∃ r1, outV h keep r0 = some r1 /\ S r1 r) /\ keep.mapM h = some news
theorem C_of {S : AV -> AV -> Prop} (hS : ∀ {B ρ ok w a b v}, S a b -> V B ρ ok w a v -> V B ρ ok w b v) {f : FuncId} {args : List AV} {r : AV} {news : List HE} (keep : List Nat) (hnd : keep.Nodup) (hargs : args.all canonV = true) (hres : resV r = true) (hpn : plainNews news = true) (hcs : CS P f args (fun _ => none) 0 (Out S keep r news)) : C P f args r news := by
 refine ⟨hcs.1, hres, hpn, fun F w vs hF hG hv => ?_⟩;have H0 : HRel w.heap.size w noPlace F (fun _ => none) 0 w := ⟨Below.refl _ _, ⟨Nat.le_refl _, hG⟩, hF, fun _ _ => rfl, (fun i e he => by cases he), (fun i j e e' b c s c' s' h1 => by cases h1)⟩;have hv' : VL w.heap.size noPlace F w args vs := ⟨hv.1, fun j c u hc hu => canon_up (List.all_eq_true.1 hargs c (List.mem_of_getElem? hc)) (hv.2 j c u hc hu) _⟩;refine (hcs.2 _ _ _ _ _ _ H0 hv').mono ?_;rintro e w' ⟨v, h', n', r0, ρ', ok', rfl, ⟨⟨r1, ho, hsub⟩, hk⟩, hn, H, hvr, x⟩;have hkl := mapM_length hk
 have blk : ∀ i e b c s, h' i = some e -> ρ' i = some (some (b, c, s)) -> w.heap.size <= b /\ ¬ ok' b := by
  intro i e b c s hi hb;rcases H.row i e hi with ⟨q, _⟩ | ⟨b', cap', cur, p1, p2, p3, _⟩
  ·rw [hb] at q; cases q
  ·rw [hb] at p1;simp only [Option.some.injEq, Prod.mk.injEq] at p1;obtain ⟨rfl, -, -⟩ := p1;exact ⟨p2, p3⟩
 refine ⟨v, _, _, rfl, ⟨H.below, H.base, fun b hb => shown_lt H hb, fun i hi => ?_, fun j e hj => ?_, ?_⟩, hS hsub (out_sound H ho hvr), fun b hb => ?_⟩
 ·have : keep[i]? = none := by simp; omega
  simp [this]
 ·obtain ⟨i, hi, hie⟩ := mapM_get hk j e hj;have hpl : ((keep[j]?).bind ρ') = ρ' i := by rw [hi]; rfl
  rcases H.row i e hie with ⟨q1, q2⟩ | ⟨b, cap, cur, q1, q2, q3, q4, q5, q6, q7, q8, q9, q10⟩
  ·exact Or.inl ⟨hpl.trans q1, q2⟩
  ·refine Or.inr ⟨b, cap, cur, hpl.trans q1, q2, ?_, q4, q5, q6, q7, q8, q9, q10.1, q10.2.1, fun k c u hc hu => ?_⟩
   ·rintro (g | ⟨i2, e2, c2, s2, g1, g2, g3⟩)
    ·exact q3 g
    ·have := H.inj i2 i e2 e b c2 s2 cap e.s g1 hie g3 q1;subst this;exact g2 (List.mem_of_getElem? hi)
   ·obtain ⟨row, hrow, hcm⟩ := List.mem_flatten.1 (List.mem_of_getElem? hc);have := List.all_eq_true.1 (List.all_eq_true.1 (List.all_eq_true.1 hpn e (List.mem_of_getElem? hj)) row hrow) c hcm;exact plain_up this (fun b hb => Or.inl hb) (q10.2.2 k c u hc hu)
 ·intro i j e e' b c s c' s' hi hj hbi hbj;obtain ⟨i1, hi1, hie⟩ := mapM_get hk i e hi;obtain ⟨j1, hj1, hje⟩ := mapM_get hk j e' hj;simp only [hi1, hj1, Option.bind_some] at hbi hbj;have := H.inj i1 j1 e e' b c s c' s' hie hje hbi hbj;subst this;exact (List.getElem?_inj (List.getElem?_eq_some_iff.1 hi1).1 hnd).1 (hi1.trans hj1.symm)
 ·rcases hb with hb | ⟨i, e, c, s, g1, g2, g3⟩
  ·exact x.new b hb
  ·exact Or.inr (blk i e b c s g1 g3).1
end
theorem call_C {P : Program} {draw : Bool} {id : Nat} {f : FuncId} {args : List AV} {t : Nat -> AV} {h : Heap} {n : Nat} {d : Option Tmp} {K : St -> Prop} {i j} {r : AV} {news : List HE} {args' : List AV} (hC : C P f args' r news) (hv : args.mapM (viewV h) = some args')
  (hc : ((newV r = true /\ newNews news = true) \/ args.all plainV = true)) (hl : news.length <= 4) (hk : K (St.put ⟨t, updL h id news, n⟩ d (shiftV id r))) : callA P draw id f args t h n d K i j :=
 Or.inl ⟨r, news, args', hv, hC, hc, hl, hk⟩
theorem call_CS {P : Program} {id : Nat} {f : FuncId} {args : List AV} {t : Nat -> AV} {h : Heap} {n : Nat} {d : Option Tmp} {K : St -> Prop} {i j} (hC : CS P f args h n fun h' n' r => K (St.put ⟨t, h', n'⟩ d r)) : callA P false id f args t h n d K i j :=
 Or.inr ⟨rfl, hC⟩
theorem call_CC {P : Program} {draw : Bool} {id : Nat} {f : FuncId} {args : List AV} {t : Nat -> AV} {h : Heap} {n : Nat} {d : Option Tmp} {K : St -> Prop} {i j} {r : AV} {news : List HE} {args' : List AV} (hC : C P f args' r news) (hk : K (St.put ⟨t, updL h id news, n⟩ d (shiftV id r)))
  (hv : args.mapM (viewV h) = some args' := by first | rfl | (simp -dsimp -implicitDefEqProofs; done)) (hc : (newV r = true /\ newNews news = true) \/ args.all plainV = true := by first | exact Or.inr (by rfl) | exact Or.inl ⟨by rfl, by first | rfl | simp [newNews, newLeaf, I]⟩)
  (hl : news.length <= 4 := by exact Nat.le_of_ble_eq_true rfl) : callA P draw id f args t h n d K i j :=
 Or.inl ⟨r, news, args', hv, hC, hc, hl, hk⟩
end Go.Proofs.YtadmfokicjjglaaGreatDoor.E
namespace Go.Proofs.YtadmfokicjjglaaGreatDoor.E
open Go.RowKit
inductive SubC : AV -> AV -> Prop
 | refl (a : AV) : SubC a a
 | nl {s : Nat} : SubC .nl (.lst false s [])
 | lst {s : Nat} {rows rows' : List (List AV)} : rows.length = rows'.length ->
   (∀ (k : Nat) (r r' : List AV), rows[k]? = some r -> rows'[k]? = some r' -> r.length = r'.length) ->
   (∀ (k : Nat) (r r' : List AV), rows[k]? = some r -> rows'[k]? = some r' -> ∀ (j : Nat) (c c' : AV), r[j]? = some c -> r'[j]? = some c' -> SubC c c') -> SubC (.lst false s rows) (.lst false s rows')
def SubL (R : AV -> AV -> Prop) (l m : List AV) : Prop := l.length = m.length /\ ∀ (j : Nat) (c c' : AV), l[j]? = some c -> m[j]? = some c' -> R c c'
theorem SubL.nil (R : AV -> AV -> Prop) : SubL R [] [] := ⟨rfl, by simp⟩
theorem SubL.cons {R : AV -> AV -> Prop} {a b : AV} {l m : List AV} (h : R a b) (g : SubL R l m) : SubL R (a :: l) (b :: m) := by
 refine ⟨by simp [g.1], fun j c c' h1 h2 => ?_⟩;cases j with
 | zero => simp at h1 h2; subst h1; subst h2; exact h
 | succ j => exact g.2 j c c' (by simpa using h1) (by simpa using h2)
def SubR (rows rows' : List (List AV)) : Prop := rows.length = rows'.length /\ ∀ (k : Nat) (r r' : List AV), rows[k]? = some r -> rows'[k]? = some r' -> SubL SubC r r'
theorem SubR.nil : SubR [] [] := ⟨rfl, by simp⟩
theorem SubR.cons {r r' : List AV} {rows rows' : List (List AV)} (h : SubL SubC r r') (g : SubR rows rows') : SubR (r :: rows) (r' :: rows') := by
 refine ⟨by simp [g.1], fun k x x' h1 h2 => ?_⟩;cases k with
 | zero => simp at h1 h2; subst h1; subst h2; exact h
 | succ k => exact g.2 k x x' (by simpa using h1) (by simpa using h2)
theorem SubR.refl (rows : List (List AV)) : SubR rows rows := ⟨rfl, fun k r r' h1 h2 => by rw [h1] at h2; cases h2; exact ⟨rfl, fun j c c' h3 h4 => by rw [h3] at h4; cases h4; exact .refl _⟩⟩
theorem SubR.map {α : Type} {f g : α -> List AV} (h : ∀ x, SubL SubC (f x) (g x)) : ∀ l : List α, SubR (l.map f) (l.map g)
 | [] => .nil
 | x :: l => .cons (h x) (SubR.map h l)
theorem SubC.rows {s : Nat} {rows rows' : List (List AV)} (h : SubR rows rows') : SubC (.lst false s rows) (.lst false s rows') := .lst h.1 (fun k r r' a b => (h.2 k r r' a b).1) (fun k r r' a b => (h.2 k r r' a b).2)
inductive SubF : AV -> AV -> Prop
 | refl (a : AV) : SubF a a
 | nl {fr : Bool} {s : Nat} : SubF .nl (.lst fr s [])
 | lst {fr fr' : Bool} {s : Nat} {rows rows' : List (List AV)} : (fr' = true -> fr = true) -> SubR rows rows' -> SubF (.lst fr s rows) (.lst fr' s rows')
inductive SubA : AV -> AV -> Prop
 | leaf {a b : AV} : SubF a b -> SubA a b
 | agg {l m : List AV} : SubL SubF l m -> SubA (.agg l) (.agg m)
inductive Sub : AV -> AV -> Prop
 | one {a b : AV} : SubA a b -> Sub a b
 | tup {l m : List AV} : SubL SubA l m -> Sub (.tup l) (.tup m)
theorem SubA.refl (a : AV) : SubA a a := .leaf (.refl a)
theorem Sub.refl (a : AV) : Sub a a := .one (.refl a)
theorem flatten_idx {rows rows' : List (List AV)} (h1 : rows.length = rows'.length) (h2 : ∀ (k : Nat) (r r' : List AV), rows[k]? = some r -> rows'[k]? = some r' -> r.length = r'.length) :
  rows.flatten.length = rows'.flatten.length /\ ∀ (j : Nat) (c' : AV), rows'.flatten[j]? = some c' -> ∃ (k : Nat) (r r' : List AV) (i : Nat) (c : AV), rows[k]? = some r /\ rows'[k]? = some r' /\ r[i]? = some c /\ r'[i]? = some c' /\ rows.flatten[j]? = some c := by
 induction rows generalizing rows' with
 | nil =>
  have : rows' = [] := List.eq_nil_of_length_eq_zero (by simpa using h1.symm);subst this; simp
 | cons r rows ih =>
  cases rows' with
  | nil => simp at h1
  | cons r' rows' =>
   have hr := h2 0 r r' rfl rfl;obtain ⟨g1, g2⟩ := ih (rows' := rows') (by simpa using h1) (fun k x x' a b => h2 (k + 1) x x' (by simpa using a) (by simpa using b));refine ⟨by simp [hr, g1], fun j c' hj => ?_⟩;simp only [List.flatten_cons] at hj ⊢;by_cases hlt : j < r'.length
   ·rw [List.getElem?_append_left hlt] at hj;obtain ⟨c, hc⟩ : ∃ c, r[j]? = some c := ⟨r[j]'(by omega), by simp⟩;exact ⟨0, r, r', j, c, rfl, rfl, hc, hj, by rw [List.getElem?_append_left (by omega)]; exact hc⟩
   ·rw [List.getElem?_append_right (by omega)] at hj;obtain ⟨k, x, x', i, c, a1, a2, a3, a4, a5⟩ := g2 _ c' hj;exact ⟨k + 1, x, x', i, c, by simpa using a1, by simpa using a2, a3, a4, by rw [List.getElem?_append_right (by omega), hr]; exact a5⟩
theorem pv_nil (F : Nat -> Prop) (w : World) (s : Nat) (a : Option Addr) : PV F w (.lst false s []) (.slice a 0 0) :=
 PV.lst (us := []) (rows := []) (a := a) (cap := 0) (by simp) (by simp) (by simp) (fun _ => ⟨rfl, rfl⟩) (by simp) (by simp) (fun _ _ hn => absurd rfl hn) (by simp)
theorem pv_rows {F : Nat -> Prop} {w : World} {v : Value} {s : Nat} {rows rows' : List (List AV)} (h2 : rows.length = rows'.length) (h3 : ∀ (k : Nat) (r r' : List AV), rows[k]? = some r -> rows'[k]? = some r' -> r.length = r'.length)
  (ih : ∀ (k : Nat) (r r' : List AV), rows[k]? = some r -> rows'[k]? = some r' -> ∀ (j : Nat) (c c' : AV), r[j]? = some c -> r'[j]? = some c' -> ∀ u, PV F w c u -> PV F w c' u) (hv : PV F w (.lst false s rows) v) : PV F w (.lst false s rows') v := by
 cases hv with
 | lst g1 g2 g3 g4 g5 g6 g7 g8 =>
  rename_i a cap us;obtain ⟨k1, k2⟩ := flatten_idx h2 h3;rw [h2];refine .lst (us := us) ?_ (by omega) g3 (fun e => ?_) (by rw [g5, k1]) g6 (fun ad e hn => g7 ad e ?_) (fun j c' u hc hu => ?_)
  ·intro r' hr';obtain ⟨k, hk⟩ := List.mem_iff_getElem?.1 hr';have hkl := (List.getElem?_eq_some_iff.1 hk).1;obtain ⟨r, hr⟩ : ∃ r, rows[k]? = some r := ⟨rows[k]'(by omega), by simp⟩;rw [<- h3 k r r' hr hk];exact g1 r (List.mem_of_getElem? hr)
  ·obtain ⟨q1, q2⟩ := g4 e;subst q1;exact ⟨List.eq_nil_of_length_eq_zero (by simpa using h2.symm), q2⟩
  ·intro e2; subst e2
   exact hn (List.eq_nil_of_length_eq_zero (by simpa using h2.symm))
  ·obtain ⟨k, r, r', i, c, a1, a2, a3, a4, a5⟩ := k2 j c' hc;exact ih k r r' a1 a2 i c c' a3 a4 u (g8 j c u a5 hu)
theorem SubC.pv {a b : AV} (h : SubC a b) {F : Nat -> Prop} {w : World} : ∀ {v : Value}, PV F w a v -> PV F w b v := by
 induction h with
 | refl a => intro v hv; exact hv
 | nl => intro v hv; cases hv; exact pv_nil _ _ _ _
 | lst h2 h3 _ ih => intro v hv; exact pv_rows h2 h3 (fun k r r' a b j c c' d e u hu => ih k r r' a b j c c' d e hu) hv
section
variable {B : Nat} {ρ : Nat -> Option Place} {ok : Nat -> Prop} {w : World}
theorem SubF.v {a b : AV} (h : SubF a b) {v : Value} (hv : V B ρ ok w a v) : V B ρ ok w b v := by
 cases h with
 | refl => exact hv
 | nl => cases hv; exact .lst (pv_nil _ _ _ _)
 | lst h1 h2 =>
  cases hv with
  | lst hp =>
   refine .lst ?_;have := pv_rows h2.1 (fun k r r' a b => (h2.2 k r r' a b).1) (fun k r r' a b j c c' d e u hu => ((h2.2 k r r' a b).2 j c c' d e).pv hu) hp;exact this.mono fun b hb => ⟨⟨hb.1, fun e => hb.2 (h1 e)⟩, rfl⟩
theorem SubA.v {a b : AV} (h : SubA a b) {v : Value} (hv : V B ρ ok w a v) : V B ρ ok w b v := by
 cases h with
 | leaf h => exact h.v hv
 | agg h =>
  cases hv with
  | agg h1 h2 h3 =>
   refine .agg (by rw [<- h.1]; exact h1) h2 fun j c u hc hu => ?_
   obtain ⟨x, hx⟩ : ∃ x, (_ : List AV)[j]? = some x := ⟨_, List.getElem?_eq_getElem (by rw [h.1]; exact (List.getElem?_eq_some_iff.1 hc).1)⟩;exact (h.2 j x c hx hc).v (h3 j x u hx hu)
theorem Sub.v {a b : AV} (h : Sub a b) {v : Value} (hv : V B ρ ok w a v) : V B ρ ok w b v := by
 cases h with
 | one h => exact h.v hv
 | tup h =>
  cases hv with
  | tup h1 h3 =>
   refine .tup (by rw [<- h.1]; exact h1) fun j c u hc hu => ?_
   obtain ⟨x, hx⟩ : ∃ x, (_ : List AV)[j]? = some x := ⟨_, List.getElem?_eq_getElem (by rw [h.1]; exact (List.getElem?_eq_some_iff.1 hc).1)⟩;exact (h.2 j x c hx hc).v (h3 j x u hx hu)
end
theorem C.args {P : Program} {f : FuncId} {args args2 : List AV} {r : AV} {news : List HE} (h : C P f args r news) (hs : SubL SubA args2 args) : C P f args2 r news := by
 obtain ⟨h1, h2, h3, h4⟩ := h;refine ⟨h1, h2, h3, fun F w vs hF hG hv => h4 F w vs hF hG ⟨hs.1.symm.trans hv.1, fun j c u hc hu => ?_⟩⟩;obtain ⟨x, hx⟩ : ∃ x, args2[j]? = some x := ⟨_, List.getElem?_eq_getElem (by rw [hs.1]; exact (List.getElem?_eq_some_iff.1 hc).1)⟩;exact (hs.2 j x c hx hc).v (hv.2 j x u hx hu)
theorem C.res {P : Program} {f : FuncId} {args : List AV} {r r2 : AV} {news : List HE} (h : C P f args r news) (hs : Sub r r2) (hr : resV r2 = true) : C P f args r2 news := by
 obtain ⟨h1, h2, h3, h4⟩ := h;refine ⟨h1, hr, h3, fun F w vs hF hG hv => (h4 F w vs hF hG hv).mono ?_⟩;rintro e w' ⟨v, ρ, ok, g1, g2, g3, g4⟩;exact ⟨v, ρ, ok, g1, g2, hs.v g3, g4⟩
def Ends (keep : List Nat) (r : AV) (news : List HE) (h : Heap) (_ : Nat) (r0 : AV) : Prop := (∃ r1, outV h keep r0 = some r1 /\ Sub r1 r) /\ keep.mapM h = some news
theorem C_inline {P : Program} {f : FuncId} {fn : Func} {c : Code} {args : List AV} {r : AV} {news : List HE} (keep : List Nat) (hf : P.funcs[f]? = some fn) (hc : Callable P f) (hb : fn.body = some c) (hok : codeOk P fn.ntmps c = true) (hl : Nat.ble args.length fn.ntmps = true)
  (hnd : keep.Nodup) (hargs : args.all canonV = true) (hres : resV r = true) (hpn : plainNews news = true)
  (hw : wpA P c (endA P fn.results.toList (Ends keep r news) ⟨⟩) ⟨⟩ ⟨⟩ ⟨initT args, fun _ => none, 0⟩) : C P f args r news :=
 C_of (S := Sub) (fun h hv => Sub.v h hv) keep hnd hargs hres hpn (CS_inline (typesOk P) hf hc hb hok (Nat.le_of_ble_eq_true hl) hw)
theorem C_empty {P : Program} {f : FuncId} {s : Nat} {r : AV} {news : List HE} (h1 : C P f [.nilv] r news) (h2 : C P f [.nn] r news) : C P f [.lst false s []] r news := by
 refine ⟨h1.1, h1.2.1, h1.2.2.1, fun F w vs hF hG hv => ?_⟩;obtain ⟨hl, hg⟩ := hv
 obtain ⟨v, rfl⟩ : ∃ v, vs = [v] := by
  match vs, hl with
  | [v], _ => exact ⟨v, rfl⟩
 have hv := hg 0 _ v rfl rfl
 have one : ∀ {a : AV}, V 0 noPlace F w a v -> VL 0 noPlace F w [a] [v] := fun {a} ha => ⟨rfl, fun j c u hc hu => by
  cases j with
  | zero => cases hc; cases hu; exact ha
  | succ j => simp at hc⟩
 cases hv with
 | lst hp =>
  cases hp with
  | lst g1 g2 g3 g4 g5 g6 g7 g8 =>
   rename_i a cap us;cases a with
   | none =>
    obtain ⟨-, rfl⟩ := g4 rfl;exact h1.2.2.2 F w _ hF hG (one .nilv)
   | some ad => exact h2.2.2.2 F w _ hF hG (one (.nn g3))
theorem C_nl_own {P : Program} {f : FuncId} {args : List AV} {el : TypeId} {s : Nat} (h : C P f args .nl []) : C P f args (.own 0 0 0) [⟨el, s, []⟩] := by
 refine ⟨h.1, rfl, rfl, fun F w vs hF hG hv => (h.2.2.2 F w vs hF hG hv).mono ?_⟩;rintro e w' ⟨v, ρ, ok, rfl, H, hr, ho⟩;refine ⟨v, fun i => if i = 0 then some none else none, ok, rfl, ⟨H.below, H.base, H.okb, fun i hi => ?_, fun i e he => ?_, fun i j e e' b c s c' s' h1 h2 h3 => ?_⟩, ?_, ho⟩
 ·simp at hi; simp; omega
 ·cases i with
  | zero => simp [heapOf] at he; subst he; exact Or.inl ⟨rfl, rfl⟩
  | succ i => simp [heapOf] at he
 ·split at h3 <;> cases h3
 ·cases hr;exact .own0 rfl
def I (xs : List Int) : List (List AV) := xs.map fun x => [.at (.int .i64 x)]
@[simp] theorem I_length (xs : List Int) : (I xs).length = xs.length := by simp [I]
@[simp] theorem I_get (xs : List Int) (k : Nat) : (I xs)[k]? = (xs[k]?).map fun x => [AV.at (.int .i64 x)] := by simp [I]
end Go.Proofs.YtadmfokicjjglaaGreatDoor.E
namespace Go.Proofs.YtadmfokicjjglaaGreatDoor.E
open Go.RowKit
section
variable {P : Program}
def writes : Code -> List Nat
 | .region _ ops _ => ops.toList.filterMap (·.dst)
 | .seq a b => writes a ++ writes b
 | .cond _ x y => writes x ++ writes y
 | .block _ c => writes c
 | .loop c => writes c
 | _ => []
def Same (W : List Nat) (t t' : Nat -> AV) : Prop := ∀ k, W.contains k = false -> t' k = t k
theorem Same.refl (W : List Nat) (t : Nat -> AV) : Same W t t := fun _ _ => rfl
theorem Same.trans {W : List Nat} {a b c : Nat -> AV} (h : Same W a b) (g : Same W b c) : Same W a c := fun k hk => (g k hk).trans (h k hk)
theorem Same.mono {W W' : List Nat} {a b : Nat -> AV} (h : Same W a b) (hs : ∀ k, k ∈ W -> k ∈ W') : Same W' a b := fun k hk => h k (by
 simp at hk ⊢; exact fun hc => hk (hs k hc))
theorem Same.put {W : List Nat} {st : St} {h' : Heap} {n' : Nat} {d : Option Tmp} {r : AV} (hd : ∀ k, d = some k -> k ∈ W) : Same W st.t (St.put ⟨st.t, h', n'⟩ d r).t := by
 intro k hk;cases d with
 | none => rfl
 | some d =>
  show upd st.t d r k = st.t k;have := hd d rfl;have : k ≠ d := by intro e; subst e; simp at hk; exact hk this
  simp [upd, this]
theorem step_same {W : List Nat} {draw : Bool} {id : Nat} {d : Option Tmp} {op : Op} {K : St -> Prop} {i j} {st : St} (hd : ∀ k, d = some k -> k ∈ W) (h : stepA P draw id d op K i j st) {K' : St -> Prop} (hk : ∀ s, K s -> Same W st.t s.t -> K' s) : stepA P draw id d op K' ⟨⟩ ⟨⟩ st := by
 cases op with
 | call c =>
  obtain ⟨callee, args, tys⟩ := c;cases callee with
  | value g =>
   obtain ⟨x, h1, h2⟩ := h;refine ⟨x, h1, ?_⟩;rcases h2 with ⟨r, news, args', a1, a2, a3, a4, a5⟩ | ⟨a1, a2, a3⟩
   ·exact Or.inl ⟨r, news, args', a1, a2, a3, a4, hk _ a5 (Same.put hd)⟩
   ·refine Or.inr ⟨a1, a2, fun B W0 ρ ok w vs H hv => (a3 B W0 ρ ok w vs H hv).mono ?_⟩;rintro e w' ⟨v, h', n', r, ρ', ok', b1, b2, b3⟩;exact ⟨v, h', n', r, ρ', ok', b1, hk _ b2 (Same.put hd), b3⟩
  | invoke r m => obtain ⟨x, h1, h2⟩ := h; exact ⟨x, h1, hk _ h2 (Same.put hd)⟩
  | builtin b =>
   cases b <;> (try (obtain ⟨x, h1, h2⟩ := h; exact ⟨x, h1, hk _ h2 (Same.put hd)⟩))
   change (match args.toList, tys.toList with | [x, y], [ty, ty'] => if appBad P ty ty' (evA st.t y) then False else bindO (appendA P st.h id ty (evA st.t x) (evA st.t y)) (fun hv => K (St.put ⟨st.t, hv.1, st.n⟩ d hv.2)) ⟨⟩ | _, _ => False) at h;change (match args.toList, tys.toList with | [x, y], [ty, ty'] => if appBad P ty ty' (evA st.t y) then False else bindO (appendA P st.h id ty (evA st.t x) (evA st.t y)) (fun hv => K' (St.put ⟨st.t, hv.1, st.n⟩ d hv.2)) ⟨⟩ | _, _ => False);split at h
   ·rename_i h1 h2;split at h
    ·exact h.elim
    ·rename_i hne;obtain ⟨x, g1, g2⟩ := h;rw [if_neg hne];exact ⟨x, g1, hk _ g2 (Same.put hd)⟩
   ·exact h.elim
 | _ => obtain ⟨x, h1, h2⟩ := h; exact ⟨x, h1, hk _ h2 (Same.put hd)⟩
theorem reg_same {W : List Nat} {draw : Bool} {ops : Array Oper} {base : Nat} {t0 : Nat -> AV} {Q Q' : St -> Prop} (hq : ∀ s, Q s -> Same W t0 s.t -> Q' s) : ∀ (os : List Oper) (k : Nat) (st : St), (∀ o, o ∈ os -> ∀ d, o.dst = some d -> d ∈ W) -> Same W t0 st.t -> runR P draw ops base os k Q st -> runR P draw ops base os k Q' st
 | [], k, st, _, hs, h => hq st h hs
 | o :: os, k, st, hd, hs, h => by
  simp only [runR] at h ⊢;unfold brA at h ⊢;split
  ·rename_i hw;rw [if_pos hw] at h;exact step_same (hd o (by simp)) h fun s hk hsm => reg_same hq os (k + 1) s (fun o ho => hd o (by simp [ho])) (hs.trans hsm) hk
  ·rename_i hw;rw [if_neg hw] at h;exact reg_same hq os (k + 1) _ (fun o ho => hd o (by simp [ho])) (hs.trans (Same.put (hd o (by simp)))) h
theorem wp_same : ∀ (c : Code) {W : List Nat} {Q Q' : Exit -> St -> Prop} {t0 : Nat -> AV} {st : St}, (∀ k, k ∈ writes c -> k ∈ W) -> (∀ e s, Q e s -> Same W t0 s.t -> Q' e s) -> Same W t0 st.t -> wp0 P c Q st -> wp0 P c Q' st := by
 intro c
 induction c with
 | skip => intro W Q Q' t0 st _ hq hs h; exact hq _ _ h hs
 | region id ops d =>
  intro W Q Q' t0 st hw hq hs h;exact reg_same (fun s h1 h2 => hq _ s h1 h2) _ _ _ (fun o ho k hk => hw k (by simp only [writes, List.mem_filterMap]; exact ⟨o, ho, hk⟩)) hs h
 | seq a b iha ihb =>
  intro W Q Q' t0 st hw hq hs h;refine iha (Q := thenA (wp0 P b Q) Q ⟨⟩ ⟨⟩) (fun k hk => hw k (by simp [writes, hk])) (fun e s h1 h2 => ?_) hs h;cases e with
  | normal => exact ihb (fun k hk => hw k (by simp [writes, hk])) hq h2 h1
  | exit k => exact hq _ _ h1 h2
  | goto k => exact hq _ _ h1 h2
  | ret => exact hq _ _ h1 h2
  | panic k => exact hq _ _ h1 h2
  | outgrown => exact hq _ _ h1 h2
 | cond c x y ihx ihy =>
  intro W Q Q' t0 st hw hq hs h;obtain ⟨b, h1, h2⟩ := h;refine ⟨b, h1, ?_⟩;cases b with
  | true => exact ihx (fun k hk => hw k (by simp [writes, hk])) hq hs h2
  | false => exact ihy (fun k hk => hw k (by simp [writes, hk])) hq hs h2
 | block id c ih =>
  intro W Q Q' t0 st hw hq hs h;refine ih (Q := blockA id Q ⟨⟩) (fun k hk => hw k hk) (fun e s h1 h2 => ?_) hs h;cases e with
  | exit k =>
   simp only [blockA] at h1 ⊢;split
   ·rename_i hk; rw [if_pos hk] at h1; exact hq _ _ h1 h2
   ·rename_i hk; rw [if_neg hk] at h1; exact hq _ _ h1 h2
  | normal => exact hq _ _ h1 h2
  | goto k => exact hq _ _ h1 h2
  | ret => exact hq _ _ h1 h2
  | panic k => exact hq _ _ h1 h2
  | outgrown => exact hq _ _ h1 h2
 | loop c ih =>
  intro W Q Q' t0 st hw hq hs h;obtain ⟨I, m, h0, hr⟩ := h;refine ⟨fun s => I s /\ Same W t0 s.t, m, ⟨h0, hs⟩, fun s hi => ?_⟩;refine ih (Q := thenA (fun s' => I s' /\ m s' < m s) Q ⟨⟩ ⟨⟩) (fun k hk => hw k hk) (fun e s' h1 h2 => ?_) hi.2 (hr s hi.1);cases e with
  | normal => exact ⟨⟨h1.1, h2⟩, h1.2⟩
  | exit k => exact hq _ _ h1 h2
  | goto k => exact hq _ _ h1 h2
  | ret => exact hq _ _ h1 h2
  | panic k => exact hq _ _ h1 h2
  | outgrown => exact hq _ _ h1 h2
 | exit id => intro W Q Q' t0 st _ hq hs h; exact hq _ _ h hs
 | ret => intro W Q Q' t0 st _ hq hs h; exact hq _ _ h hs
 | rangeFunc => intro W Q Q' t0 st _ _ _ h; exact h.elim
 | scope => intro W Q Q' t0 st _ _ _ h; exact h.elim
 | label => intro W Q Q' t0 st _ _ _ h; exact h.elim
 | goto k => intro W Q Q' t0 st _ hq hs h; exact ⟨h.1, hq _ _ h.2 hs⟩
 | refuse => intro W Q Q' t0 st _ _ _ h; exact h.elim
def natAt (a : AV) : Nat := match a with | .at (.int _ n) => n.toNat | _ => 0
theorem loop_count {c : Code} {Q : Exit -> St -> Prop} {st : St} (ci n : Nat) (R : Nat -> Heap -> Nat -> (Nat -> AV) -> Prop) (W : List Nat) (hW : writes c = W) (h0 : st.t ci = .at (.int .i64 0)) (hR : R 0 st.h st.n st.t)
  (round : ∀ (k : Nat) (t : Nat -> AV) (h : Heap) (m : Nat), k < n -> t ci = .at (.int .i64 k) -> Same W st.t t -> R k h m t -> wpA P c (thenA (fun s' => s'.t ci = .at (.int .i64 (k + 1)) /\ R (k + 1) s'.h s'.n s'.t) Q ⟨⟩ ⟨⟩) ⟨⟩ ⟨⟩ ⟨t, h, m⟩)
  (last : ∀ (t : Nat -> AV) (h : Heap) (m : Nat), t ci = .at (.int .i64 n) -> Same W st.t t -> R n h m t -> wpA P c (thenA (fun _ => False) Q ⟨⟩ ⟨⟩) ⟨⟩ ⟨⟩ ⟨t, h, m⟩) : wpA P (.loop c) Q ⟨⟩ ⟨⟩ st := by
 refine wpA_loop (fun s => (∃ k, k <= n /\ s.t ci = .at (.int .i64 k) /\ R k s.h s.n s.t) /\ Same W st.t s.t) (fun s => n - natAt (s.t ci)) ⟨⟨0, Nat.zero_le _, h0, hR⟩, Same.refl _ _⟩ ?_;rintro ⟨t, h, m⟩ ⟨⟨k, hk, h1, h2⟩, h3⟩;simp only at h1 h2 h3;have hw : ∀ x, x ∈ writes c -> x ∈ W := fun x hx => hW ▸ hx
 by_cases hlt : k < n
 ·refine wp_same c (t0 := st.t) hw ?_ h3 (round k t h m hlt h1 h3 h2);intro e s hq hs;cases e with
  | normal =>
   obtain ⟨q1, q2⟩ := hq;refine ⟨⟨⟨k + 1, hlt, by simpa using q1, q2⟩, hs⟩, ?_⟩;simp only [q1, h1, natAt];omega
  | exit k => exact hq
  | goto k => exact hq
  | ret => exact hq
  | panic k => exact hq
  | outgrown => exact hq
 ·have : k = n := by omega
  subst this;refine wp_same c (t0 := st.t) hw ?_ h3 (last t h m h1 h3 h2);intro e s hq hs;cases e with
  | normal => exact hq.elim
  | exit k => exact hq
  | goto k => exact hq
  | ret => exact hq
  | panic k => exact hq
  | outgrown => exact hq
class App {α : Type} (a b : List α) (l : outParam (List α)) : Prop where
 h : a ++ b = l
instance {α : Type} (b : List α) : App [] b b := ⟨rfl⟩
instance {α : Type} (x : α) (a b l : List α) [i : App a b l] : App (x :: a) b (x :: l) := ⟨by rw [<- i.h]; rfl⟩
@[simp high] theorem wpA_region_app {P : Program} {Q : Exit -> St -> Prop} {st : St} {id : Nat} {a b l : List Oper} {d : Bool} [i : App a b l] : wpA P (.region id (List.append a b).toArray d) Q ⟨⟩ ⟨⟩ st = regA P d l.toArray st.n l 0 (Q .normal) ⟨⟩ ⟨⟩ ⟨⟩ ⟨st.t, st.h, st.n + 4 * l.length⟩ := by
 have e : (List.append a b).toArray = l.toArray := by rw [<- i.h]; rfl
 rw [e];exact wpA_region
end
end Go.Proofs.YtadmfokicjjglaaGreatDoor.E
namespace Go.Proofs.YtadmfokicjjglaaGreatDoor.E
theorem rN {p q : Prop} (k : q) (e : p = q := by (conv => lhs; simp -dsimp -implicitDefEqProofs [-getElem?_pos, -List.map_append, -List.map_set, List.getElem?_cons_zero, List.getElem?_cons_succ])) : p := e.mpr k
theorem rS {F p q : Prop} (f : F) (k : q) (e : F -> p = q := by (intro h; conv => lhs; simp -dsimp -implicitDefEqProofs [-getElem?_pos, -List.map_append, -List.map_set, List.getElem?_cons_zero, List.getElem?_cons_succ, h])) : p := (e f).mpr k
theorem aN {a b : Prop} (x : a) (y : b) : a /\ b := ⟨x, y⟩
theorem CI {P : Program} {f : FuncId} {fn : Func} {c : Code} {args : List AV} {r : AV} {news : List HE} (hf : P.funcs[f]? = some fn)
  (hw : wpA P c (endA P fn.results.toList (Ends [] r news) ⟨⟩) ⟨⟩ ⟨⟩ ⟨initT args, fun _ => none, 0⟩)
  (hb : fn.body = some c := by rfl) (hc : Callable P f := by exact fun _ _ => by kernel_rfl) (hok : codeOk P fn.ntmps c = true := by kernel_rfl) (hl : Nat.ble args.length fn.ntmps = true := by rfl)
  (hargs : args.all canonV = true := by rfl) (hres : resV r = true := by rfl) (hpn : plainNews news = true := by rfl) : C P f args r news := C_inline [] hf hc hb hok hl (by decide) hargs hres hpn hw
theorem CSI {P : Program} {id : Nat} {f : FuncId} {fn : Func} {c : Code} {args : List AV} {t : Nat -> AV} {h : Heap} {n : Nat} {d : Option Tmp} {K : St -> Prop} {i j} (hf : P.funcs[f]? = some fn)
  (hw : wpA P c (endA P fn.results.toList (fun h' n' r => K (St.put ⟨t, h', n'⟩ d r)) ⟨⟩) ⟨⟩ ⟨⟩ ⟨initT args, h, n⟩)
  (hb : fn.body = some c := by rfl) (hc : Callable P f := by exact fun _ _ => by kernel_rfl) (hok : codeOk P fn.ntmps c = true := by kernel_rfl) (hl : Nat.ble args.length fn.ntmps = true := by rfl) : callA P false id f args t h n d K i j :=
 call_CS (CS_inline (typesOk _) hf hc hb hok (Nat.le_of_ble_eq_true hl) hw)
theorem rC {p : Prop} {P : Program} {draw : Bool} {id : Nat} {f : FuncId} {args : List AV} {t : Nat -> AV} {h : Heap} {n : Nat} {d : Option Tmp} {K : St -> Prop} {i j} {r : AV} {news : List HE} {args' : List AV} (hC : C P f args' r news) (hk : K (St.put ⟨t, updL h id news, n⟩ d (shiftV id r)))
  (e : p = callA P draw id f args t h n d K i j := by (conv => lhs; simp -dsimp -implicitDefEqProofs [-getElem?_pos, -List.map_append, -List.map_set, List.getElem?_cons_zero, List.getElem?_cons_succ]))
  (hv : args.mapM (viewV h) = some args' := by first | rfl | (simp -dsimp -implicitDefEqProofs; done)) (hc : (newV r = true /\ newNews news = true) \/ args.all plainV = true := by first | exact Or.inr (by rfl) | exact Or.inl ⟨by rfl, by first | rfl | simp [newNews, newLeaf, I]⟩)
  (hl : news.length <= 4 := by exact Nat.le_of_ble_eq_true rfl) : p := e.mpr (call_CC hC hk hv hc hl)
theorem rD {F p : Prop} {P : Program} {draw : Bool} {id : Nat} {f : FuncId} {args : List AV} {t : Nat -> AV} {h : Heap} {n : Nat} {d : Option Tmp} {K : St -> Prop} {i j} {r : AV} {news : List HE} {args' : List AV} (g : F) (hC : C P f args' r news) (hk : K (St.put ⟨t, updL h id news, n⟩ d (shiftV id r)))
  (e : F -> p = callA P draw id f args t h n d K i j := by (intro h; conv => lhs; simp -dsimp -implicitDefEqProofs [-getElem?_pos, -List.map_append, -List.map_set, List.getElem?_cons_zero, List.getElem?_cons_succ, h]))
  (hv : args.mapM (viewV h) = some args' := by first | rfl | (simp -dsimp -implicitDefEqProofs; done)) (hc : (newV r = true /\ newNews news = true) \/ args.all plainV = true := by first | exact Or.inr (by rfl) | exact Or.inl ⟨by rfl, by first | rfl | simp [newNews, newLeaf, I]⟩)
  (hl : news.length <= 4 := by exact Nat.le_of_ble_eq_true rfl) : p := (e g).mpr (call_CC hC hk hv hc hl)
theorem rZ {p : Prop} (e : p = True := by (conv => lhs; simp -dsimp -implicitDefEqProofs [-getElem?_pos, -List.map_append, -List.map_set, List.getElem?_cons_zero, List.getElem?_cons_succ])) : p := of_eq_true e
theorem rW {F p : Prop} (f : F) (e : F -> p = True := by (intro h; conv => lhs; simp -dsimp -implicitDefEqProofs [-getElem?_pos, -List.map_append, -List.map_set, List.getElem?_cons_zero, List.getElem?_cons_succ, h])) : p := of_eq_true (e f)
end Go.Proofs.YtadmfokicjjglaaGreatDoor.E
