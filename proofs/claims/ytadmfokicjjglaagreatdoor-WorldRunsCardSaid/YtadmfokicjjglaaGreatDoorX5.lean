/- X5: EngW: less may be said of a heap, of arguments; results shown. EngZ: regions whose order is open, with one call on one's own memory; what does not lean on memory may stand open to it. (The greater part is EngL2's and EngX's; it serves in place of EngX.) -/
import Derived.Test.YtadmfokicjjglaaGreatDoorX4
namespace Go.Proofs.YtadmfokicjjglaaGreatDoor.E
open Go.RowKit
set_option linter.unusedSimpArgs false
set_option linter.unusedVariables false
theorem call_CSx {P : Program} {id : Nat} {f : FuncId} {args : List AV} {t : Nat -> AV} {h : Heap} {n : Nat} {d : Option Tmp} {K : St -> Prop} {i j} {Q : Heap -> Nat -> AV -> Prop} (hC : CS P f args h n Q) (hk : ∀ h' n' r, Q h' n' r -> K (St.put ⟨t, h', n'⟩ d r)) : callA P false id f args t h n d K i j :=
 call_CS ⟨hC.1, fun B W0 ρ ok w vs H hv => (hC.2 B W0 ρ ok w vs H hv).mono fun e w' hx => by
  obtain ⟨v, h', n', r, ρ', ok', b1, b2, b3⟩ := hx
  exact ⟨v, h', n', r, ρ', ok', b1, hk _ _ _ b2, b3⟩⟩
def HSub (h h' : Heap) : Prop := ∀ (i : Nat) (e' : HE), h' i = some e' -> ∃ e, h i = some e /\ e.ty = e'.ty /\ e.s = e'.s /\ e.rows.length = e'.rows.length /\ ∀ (k : Nat) (r r' : List AV), e.rows[k]? = some r -> e'.rows[k]? = some r' -> SubL SubF r r'
theorem HSub.refl (h : Heap) : HSub h h := fun i e' he => ⟨e', he, rfl, rfl, rfl, fun k r r' h1 h2 => by
 rw [h1] at h2; cases h2; exact ⟨rfl, fun j c c' h3 h4 => by rw [h3] at h4; cases h4; exact .refl _⟩⟩
theorem SubL.reflF (l : List AV) : SubL SubF l l := ⟨rfl, fun j c c' h3 h4 => by rw [h3] at h4; cases h4; exact .refl _⟩
theorem HSub.at {h : Heap} {i : Nat} {e e' : HE} (he : h i = some e) (h1 : e.ty = e'.ty) (h2 : e.s = e'.s) (h3 : e.rows.length = e'.rows.length) (h4 : ∀ (k : Nat) (r r' : List AV), e.rows[k]? = some r -> e'.rows[k]? = some r' -> SubL SubF r r') : HSub h (upd h i (some e')) := by
 intro j ej hj;by_cases hc : j = i
 ·subst hc;rw [upd_same] at hj;cases hj;exact ⟨e, he, h1, h2, h3, h4⟩
 ·rw [upd_ne _ _ hc] at hj;exact HSub.refl h j ej hj
section
variable {P : Program} {B : Nat} {W0 : World} {ρ : Nat -> Option Place} {ok : Nat -> Prop} {w : World} {h h' : Heap} {n : Nat}
theorem HRel.sub (H : HRel B W0 ρ ok h n w) (hs : HSub h h') : HRel B W0 ρ ok h' n w := by
 refine ⟨H.below, H.base, H.okb, H.fresh, fun i e' he' => ?_, fun i j e e' b c s c' s' h1 h2 h3 h4 => ?_⟩
 ·obtain ⟨e, he, a1, a2, a3, a4⟩ := hs i e' he';rcases H.row i e he with ⟨q1, q2⟩ | ⟨b, cap, cur, p1, p2, p3, p4, p5, p6, p7, p8, p9, p10⟩
  ·exact Or.inl ⟨q1, List.eq_nil_of_length_eq_zero (by rw [<- a3, q2]; rfl)⟩
  ·have hlen : ∀ (k : Nat) (r r' : List AV), e.rows[k]? = some r -> e'.rows[k]? = some r' -> r.length = r'.length := fun k r r' g1 g2 => (a4 k r r' g1 g2).1
   obtain ⟨f1, f2⟩ := flatten_idx a3 hlen;refine Or.inr ⟨b, cap, cur, by rw [<- a2]; exact p1, p2, p3, by rw [<- a1]; exact p4, by rw [<- a2]; exact p5, by rw [<- a3]; exact p6, p7, by rw [<- a2]; exact p8, fun r' hr' => ?_, ?_⟩
   ·obtain ⟨k, hk⟩ := List.getElem?_of_mem hr';obtain ⟨r, hr⟩ : ∃ r, e.rows[k]? = some r := ⟨_, List.getElem?_eq_getElem (by rw [a3]; exact (List.getElem?_eq_some_iff.1 hk).1)⟩;rw [<- hlen k r r' hr hk, <- a2];exact p9 r (List.mem_of_getElem? hr)
   ·obtain ⟨c1, c2, c3⟩ := p10;rw [<- a2, <- a3];refine ⟨by rw [<- f1]; exact c1, c2, fun j c' u hc' hu => ?_⟩;obtain ⟨k, r, r', i2, c, g1, g2, g3, g4, g5⟩ := f2 j c' hc';exact ((a4 k r r' g1 g2).2 i2 c c' g3 g4).v (c3 j c u g5 hu)
 ·obtain ⟨x, hx, -⟩ := hs i e h1;obtain ⟨y, hy, -⟩ := hs j e' h2;exact H.inj i j x y b c s c' s' hx hy h3 h4
end
theorem CS.sub {P : Program} {f : FuncId} {args : List AV} {h : Heap} {n : Nat} {Q Q' : Heap -> Nat -> AV -> Prop} (hc : CS P f args h n Q) (hq : ∀ h' n' r, Q h' n' r -> ∃ h'', HSub h' h'' /\ Q' h'' n' r) : CS P f args h n Q' :=
 ⟨hc.1, fun B W0 ρ ok w vs H hv => (hc.2 B W0 ρ ok w vs H hv).mono fun e w' hx => by
  obtain ⟨v, h', n', r, ρ', ok', b1, b2, b3, b4, b5⟩ := hx;obtain ⟨h'', g1, g2⟩ := hq _ _ _ b2
  exact ⟨v, h'', n', r, ρ', ok', b1, g2, b3, b4.sub g1, b5⟩⟩
theorem CS.pre {P : Program} {f : FuncId} {args : List AV} {h h0 : Heap} {n : Nat} {Q : Heap -> Nat -> AV -> Prop} (hc : CS P f args h n Q) (hs : HSub h0 h) : CS P f args h0 n Q :=
 ⟨hc.1, fun B W0 ρ ok w vs H hv => hc.2 B W0 ρ ok w vs (H.sub hs) hv⟩
theorem CS.args {P : Program} {f : FuncId} {args args2 : List AV} {h : Heap} {n : Nat} {Q : Heap -> Nat -> AV -> Prop} (hc : CS P f args h n Q) (hs : SubL SubA args2 args) : CS P f args2 h n Q :=
 ⟨hc.1, fun B W0 ρ ok w vs H hv => hc.2 B W0 ρ ok w vs H ⟨hs.1.symm.trans hv.1, fun j c u hcj hu => by
  obtain ⟨x, hx⟩ : ∃ x, args2[j]? = some x := ⟨_, List.getElem?_eq_getElem (by rw [hs.1]; exact (List.getElem?_eq_some_iff.1 hcj).1)⟩
  exact (hs.2 j x c hx hcj).v (hv.2 j x u hx hu)⟩⟩
theorem C.show {P : Program} {f : FuncId} {args : List AV} {r r1 r2 : AV} {news : List HE} (hc : C P f args r news) (ho : outV (heapOf news) [] r = some r1) (hs : Sub r1 r2) (hr : resV r2 = true) : C P f args r2 [] := by
 refine ⟨hc.1, hr, rfl, fun F w vs hF hG hv => (hc.2.2.2 F w vs hF hG hv).mono ?_⟩;rintro e w' ⟨v, ρ, ok, rfl, H, hvr, x⟩;have hvo := out_sound H ho hvr;refine ⟨v, fun j => (([] : List Nat)[j]?).bind ρ, Shown ρ ok (heapOf news) [], rfl, ⟨H.below, H.base, fun b hb => shown_lt H hb, fun i _ => rfl, fun i e he => ?_, fun i j e e' b c s c' s' h1 h2 h3 h4 => ?_⟩, hs.v hvo, fun b hb => ?_⟩
 ·simp [heapOf] at he
 ·simp [heapOf] at h1
 ·rcases hb with hb | ⟨i, e, c, s, g1, g2, g3⟩
  ·exact x b hb
  ·rcases H.row i e g1 with ⟨q, _⟩ | ⟨b', cap', cur, p1, p2, p3, _⟩
   ·rw [g3] at q; cases q
   ·rw [g3] at p1;simp only [Option.some.injEq, Prod.mk.injEq] at p1;obtain ⟨rfl, -, -⟩ := p1;exact Or.inr p2
end Go.Proofs.YtadmfokicjjglaaGreatDoor.E
namespace Go.Proofs.YtadmfokicjjglaaGreatDoor.E
open Go.RowKit
set_option linter.unusedSimpArgs false
set_option linter.unusedVariables false
section
variable {P : Program} {B : Nat} {W0 : World} {nt : Nat}
theorem callA_mono {draw : Bool} {id : Nat} {f : FuncId} {args : List AV} {t : Nat -> AV} {h : Heap} {n : Nat} {d : Option Tmp} {K K' : St -> Prop} {t' : Nat -> AV} {i j i' j'} (hk : ∀ h' n' r, K (St.put ⟨t, h', n'⟩ d r) -> K' (St.put ⟨t', h', n'⟩ d r)) (hc : callA P draw id f args t h n d K i j) : callA P draw id f args t' h n d K' i' j' := by
 rcases hc with ⟨r, news, args', h1, h2, h3, h4, h5⟩ | ⟨h1, h2⟩
 ·exact Or.inl ⟨r, news, args', h1, h2, h3, h4, hk _ _ _ h5⟩
 ·exact Or.inr ⟨h1, h2.1, fun B W0 ρ ok w vs H hv => (h2.2 B W0 ρ ok w vs H hv).mono fun e w' ⟨v, h', n', r, ρ', ok', g1, g2, g3⟩ => ⟨v, h', n', r, ρ', ok', g1, hk _ _ _ g2, g3⟩⟩
theorem stepA_mono {draw : Bool} {id : Nat} {d : Option Tmp} {op : Op} {K K' : St -> Prop} {st : St} (hk : ∀ s, K s -> K' s) (h : stepA P draw id d op K ⟨⟩ ⟨⟩ st) : stepA P draw id d op K' ⟨⟩ ⟨⟩ st := by
 revert h;unfold stepA;split
 ·rintro ⟨x, e, h⟩; exact ⟨x, e, hk _ h⟩
 ·rintro ⟨x, e, h⟩; exact ⟨x, e, hk _ h⟩
 ·rintro ⟨x, e, h⟩; exact ⟨x, e, hk _ h⟩
 ·rintro ⟨x, e, h⟩; exact ⟨x, e, hk _ h⟩
 ·rintro ⟨x, e, h⟩; exact ⟨x, e, hk _ h⟩
 ·split
  ·split
   ·exact fun h => h
   ·rintro ⟨x, e, h⟩; exact ⟨x, e, hk _ h⟩
  ·exact fun h => h
 ·rintro ⟨x, e, h⟩; exact ⟨x, e, callA_mono (fun _ _ _ => hk _) h⟩
 ·rintro ⟨x, e, h⟩; exact ⟨x, e, hk _ h⟩
def runB (P : Program) (x : Nat) (z : Option Nat) (ops : Array Oper) (base : Nat) : List Oper -> Nat -> (St -> Prop) -> St -> Prop
 | [], _, Q, st => Q st
 | o :: os, k, Q, st => brA (decide (z = some k)) (runB P x z ops base os (k + 1) Q st)
  (brA (wantA ops o st.t) (stepA P (!decide (k = x)) (base + 4 * k) o.dst o.op (runB P x z ops base os (k + 1) Q) ⟨⟩ ⟨⟩ st) (runB P x z ops base os (k + 1) Q (st.put o.dst .und)) ⟨⟩ ⟨⟩) ⟨⟩ ⟨⟩
def barA (P : Program) (x : Nat) (z : Option Nat) (ops : Array Oper) (base : Nat) (os : List Oper) (k : Nat) (Q : St -> Prop) (_ : Tg ops) (_ : Tg os) (_ : Tg Q) (st : St) : Prop := runB P x z ops base os k Q st
theorem barA_nil {x : Nat} {z : Option Nat} {ops : Array Oper} {base : Nat} {k : Nat} {Q : St -> Prop} {st : St} : barA P x z ops base [] k Q ⟨⟩ ⟨⟩ ⟨⟩ st = Q st := rfl
theorem barA_cons {x : Nat} {z : Option Nat} {ops : Array Oper} {base : Nat} {os : List Oper} {k : Nat} {Q : St -> Prop} {st : St} {d : Option Tmp} {op : Op} {ty : TypeId} {pos : String} {after : Array Edge} :
  barA P x z ops base (⟨d, op, ty, pos, after, none⟩ :: os) k Q ⟨⟩ ⟨⟩ ⟨⟩ st = brA (decide (z = some k)) (barA P x z ops base os (k + 1) Q ⟨⟩ ⟨⟩ ⟨⟩ st) (stepA P (!decide (k = x)) (base + 4 * k) d op (barA P x z ops base os (k + 1) Q ⟨⟩ ⟨⟩ ⟨⟩) ⟨⟩ ⟨⟩ st) ⟨⟩ ⟨⟩ := rfl
def preZ (P : Program) (z : Option Nat) (ops : Array Oper) (K : St -> Prop) (_ : Tg K) (st : St) : Prop := match z with
 | none => K st
 | some z => match ops[z]? with
  | some ⟨some d, .fieldAddr ty x f, _, _, _, _⟩ => bindO (fieldAddrA P ty (evA st.t x) f) (fun r => K (st.put (some d) r)) ⟨⟩
  | _ => False
@[simp] theorem preZ_none {ops : Array Oper} {K : St -> Prop} {i} {st : St} : preZ P none ops K i st = K st := rfl
def runX (P : Program) (x : Nat) (ops : Array Oper) (base : Nat) : List Nat -> (St -> Prop) -> St -> Prop
 | [], Q, st => Q st
 | k :: ks, Q, st => match ops[k]? with
  | none => runX P x ops base ks Q st
  | some o => if wantA ops o st.t = true then stepA P (!decide (k = x)) (base + 4 * k) o.dst o.op (runX P x ops base ks Q) ⟨⟩ ⟨⟩ st else runX P x ops base ks Q (St.put ⟨st.t, st.h, st.n⟩ o.dst .und)
theorem runB_runX {x : Nat} {z : Option Nat} {ops : Array Oper} {base : Nat} {Q : St -> Prop} : ∀ (os : List Oper) (k : Nat) (st : St), ops.toList.drop k = os -> runB P x z ops base os k Q st -> runX P x ops base ((List.range' k os.length).filter fun j => !decide (z = some j)) Q st
 | [], k, st, _, h => h
 | o :: os, k, st, hd, h => by
  have ho : ops[k]? = some o := by
   have : (ops.toList.drop k)[0]? = some o := by rw [hd]; rfl
   rw [List.getElem?_drop] at this;simpa using this
  have hd' : ops.toList.drop (k + 1) = os := by
   rw [<- List.drop_drop, hd]; rfl
  simp only [List.length_cons, List.range'_succ, List.filter_cons];simp only [runB] at h;by_cases hz : z = some k
  ·rw [decide_eq_true hz] at h ⊢;exact runB_runX os (k + 1) st hd' h
  ·rw [decide_eq_false hz] at h ⊢;simp only [Bool.not_false, if_true, runX, ho];rw [brA_false] at h;unfold brA at h;split
   ·rename_i hw;rw [if_pos hw] at h;exact stepA_mono (fun s hs => runB_runX os (k + 1) s hd' hs) h
   ·rename_i hw;rw [if_neg hw] at h;exact runB_runX os (k + 1) _ hd' h
theorem runX_app {x : Nat} {ops : Array Oper} {base : Nat} {Q : St -> Prop} (a b : List Nat) : runX P x ops base (a ++ b) Q = runX P x ops base a (runX P x ops base b Q) := by
 induction a with
 | nil => rfl
 | cons k a ih =>
  funext st
  simp only [List.cons_append, runX];cases ops[k]? with
  | none => rw [ih]
  | some o =>
   simp only;rw [congrArg (fun K => stepA P (!decide (k = x)) (base + 4 * k) o.dst o.op K ⟨⟩ ⟨⟩ st) ih, ih]
theorem runX_free {x : Nat} {ops : Array Oper} {base : Nat} {Q : St -> Prop} : ∀ {a : List Nat}, x ∉ a -> runX P x ops base a Q = runI P ops base a Q
 | [], _ => rfl
 | k :: a, h => by
  simp only [List.mem_cons, not_or] at h;have e : (!decide (k = x)) = true := by simp [Ne.symm h.1]
  funext st
  simp only [runX, runI, e];cases ops[k]? with
  | none => rw [runX_free h.2]
  | some o =>
   simp only;rw [congrArg (fun K => stepA P true (base + 4 * k) o.dst o.op K ⟨⟩ ⟨⟩ st) (runX_free h.2), runX_free h.2]
theorem frontZ {ops : Array Oper} {base x : Nat} {ox : Oper} (gx : ops[x]? = some ox) (hg : ox.guard = none) {g : Operand} {args : Array Operand} {tys : Array TypeId} (hop : ox.op = .call ⟨.value g, args, tys⟩) {Q : St -> Prop} {post : List Nat} :
  ∀ (pre : List Nat) (s : St), (∀ y, y ∈ pre -> ∃ oy, Free ops y x oy ox /\ sort oy.op = 0) -> runX P x ops base (pre ++ x :: post) Q s -> stepA P false (base + 4 * x) ox.dst ox.op (runX P x ops base (pre ++ post) Q) ⟨⟩ ⟨⟩ s
 | [], s, _, h => by
  have hw : ∀ t, wantA ops ox t = true := fun t => by unfold wantA; rw [hg]
  simpa only [List.nil_append, runX, gx, hw, if_true, decide_true, Bool.not_true] using h
 | y :: pre, s, hf, h => by
  obtain ⟨oy, f, hsy⟩ := hf y (by simp);have hsy2 : sort oy.op ≠ 2 := by rw [hsy]; simp
  have e1 : (!decide (y = x)) = true := by simp [f.ne]
  have swap : ∀ {r1 : AV} {K2 : St -> Prop}, (∀ h' n' rx, runX P x ops base (pre ++ post) Q (St.put ⟨(St.put ⟨s.t, s.h, s.n⟩ oy.dst r1).t, h', n'⟩ ox.dst rx) -> K2 (St.put ⟨s.t, h', n'⟩ ox.dst rx)) ->
    stepA P false (base + 4 * x) ox.dst ox.op (runX P x ops base (pre ++ post) Q) ⟨⟩ ⟨⟩ (St.put ⟨s.t, s.h, s.n⟩ oy.dst r1) -> stepA P false (base + 4 * x) ox.dst ox.op K2 ⟨⟩ ⟨⟩ s := by
   intro r1 K2 hk hs;have ha : Alike ops ox s.t (St.put ⟨s.t, s.h, s.n⟩ oy.dst r1).t := Alike.put f.d1;have hev : ∀ o, o ∈ ox.op.operands -> evA (St.put ⟨s.t, s.h, s.n⟩ oy.dst r1).t o = evA s.t o := fun o ho => (ha.ev ho).symm
   rw [hop] at hs hev ⊢;unfold stepA at hs ⊢;obtain ⟨fc, h1, h2⟩ := hs;have eg : evA (St.put ⟨s.t, s.h, s.n⟩ oy.dst r1).t g = evA s.t g := hev g (by simp [Op.operands, Call.operands]);have ea : args.toList.map (evA (St.put ⟨s.t, s.h, s.n⟩ oy.dst r1).t) = args.toList.map (evA s.t) := List.map_congr_left fun o ho => hev o (by simp only [Op.operands, Call.operands]; simp; exact Or.inr (by simpa using ho))
   rw [eg] at h1;rw [ea, put_h, put_n] at h2;exact ⟨fc, h1, callA_mono hk h2⟩
  have alikeY : ∀ {h' : Heap} {n' : Nat} {rx : AV}, Alike ops oy s.t (St.put ⟨s.t, h', n'⟩ ox.dst rx).t := Alike.put f.d2;simp only [List.cons_append, runX, f.gy, e1] at h;split at h
  ·rename_i hw;obtain ⟨h1, r1, he, hk⟩ := step_ef h;unfold Ef at he;rw [if_neg hsy2] at he;obtain ⟨ny, k1, k2, rfl⟩ := he;obtain ⟨-, rfl⟩ := k1.free (h2 := s.h) hsy;refine swap (r1 := r1) (fun h' n' rx hq => ?_) (frontZ gx hg hop pre _ (fun y hy => hf y (by simp [hy])) hk);simp only [List.cons_append, runX, f.gy, e1];rw [alikeY.want, if_pos hw];refine ef_step (h' := h') (r := r1) ?_ ?_
   ·unfold Ef;rw [if_neg hsy2];exact ⟨[], (k1.free (h2 := (St.put ⟨s.t, h', n'⟩ ox.dst rx).h) hsy).1.congr fun o ho => alikeY.ev ho, by simp, by rw [put_h]; rfl⟩
   ·have e : St.put ⟨(St.put ⟨s.t, h', n'⟩ ox.dst rx).t, h', (St.put ⟨s.t, h', n'⟩ ox.dst rx).n⟩ oy.dst r1 = St.put ⟨(St.put ⟨s.t, s.h, s.n⟩ oy.dst r1).t, h', n'⟩ ox.dst rx := by
     rw [put_n, put_t (h := s.h) (h' := h') (n := s.n) (n' := n')];exact put_comm f.d3
    rw [e]; exact hq
  ·rename_i hw;refine swap (r1 := .und) (fun h' n' rx hq => ?_) (frontZ gx hg hop pre _ (fun y hy => hf y (by simp [hy])) h);simp only [List.cons_append, runX, f.gy];rw [alikeY.want, if_neg hw]
   have e : St.put ⟨(St.put ⟨s.t, h', n'⟩ ox.dst rx).t, (St.put ⟨s.t, h', n'⟩ ox.dst rx).h, (St.put ⟨s.t, h', n'⟩ ox.dst rx).n⟩ oy.dst .und = St.put ⟨(St.put ⟨s.t, s.h, s.n⟩ oy.dst .und).t, h', n'⟩ ox.dst rx := by
    rw [put_n, put_h, put_t (h := s.h) (h' := h') (n := s.n) (n' := n')];exact put_comm f.d3
   rw [e]; exact hq
def xOk (ops : Array Oper) (x : Nat) (z : Option Nat) : Bool :=
 let M := closA ops
 (match ops[x]? with
  | some ⟨_, .call ⟨.value _, _, _⟩, _, _, _, none⟩ => true
  | _ => false) &&
 ((List.range ops.size).all fun y => if y < x then (M.getD x []).contains y || (match ops[y]? with | some oy => sort oy.op == 0 | none => false) else y == x || decide (z = some y) || (M.getD y []).contains x) &&
 (match z with
  | none => true
  | some z => (match ops[z]? with
   | some ⟨some _, .fieldAddr _ (.tmp _) _, _, _, after, none⟩ => after.isEmpty
   | _ => false) && Region.free .any ops (Array.replicate ops.size false) z && Region.noSelect ops)
theorem xOk_op {ops : Array Oper} {x : Nat} {z : Option Nat} (h : xOk ops x z = true) : ∃ ox g args tys, ops[x]? = some ox /\ ox.guard = none /\ ox.op = .call ⟨.value g, args, tys⟩ := by
 unfold xOk at h;simp only [Bool.and_eq_true] at h;have h1 := h.1.1;split at h1
 ·rename_i d g args tys ty pos after ho;exact ⟨_, _, _, _, ho, rfl, rfl⟩
 ·cases h1
theorem xOk_before {ops : Array Oper} {x y : Nat} {z : Option Nat} {oy : Oper} (h : xOk ops x z = true) (hy : y < x) (ho : ops[y]? = some oy) : y ∈ (closA ops).getD x [] \/ sort oy.op = 0 := by
 unfold xOk at h;simp only [Bool.and_eq_true] at h;have h1 := List.all_eq_true.1 h.1.2 y (by have := (Array.getElem?_eq_some_iff.1 ho).1; simpa using this);rw [if_pos hy, ho] at h1;simpa using h1
theorem xOk_behind {ops : Array Oper} {x y : Nat} {z : Option Nat} (h : xOk ops x z = true) (hy : x < y) (hs : y < ops.size) (hzy : z ≠ some y) : x ∈ (closA ops).getD y [] := by
 unfold xOk at h;simp only [Bool.and_eq_true] at h;have h1 := List.all_eq_true.1 h.1.2 y (by simpa using hs);rw [if_neg (by omega)] at h1;simp only [Bool.or_eq_true, beq_iff_eq, List.contains_iff_mem, decide_eq_true_eq] at h1;rcases h1 with (h1 | h1) | h1
 ·omega
 ·exact absurd h1 hzy
 ·exact h1
theorem draw_anyX (T : TypesOk P) {ρ0 : Nat -> Option Place} {ok0 : Nat -> Prop} {w0 : World} {n0 : Nat} {ops : Array Oper} {base : Nat} (hb0 : n0 <= base) (hd : drawOk ops = true) {x0 : Nat} {z0 : Option Nat} (hX : xOk ops x0 z0 = true) (hok : (ops.toList.all (operOk nt)) = true) {Q : St -> Prop} {Qc : Exit -> Act -> World -> Prop}
  (hQ : ∀ st a w, Q st -> Since B W0 nt ρ0 ok0 w0 n0 st a w -> Qc .normal a w) :
  ∀ (fuel : Nat) (listed : Array Bool) (st : St) (a : Act) (w : World) (ρ : Nat -> Option Place) (ok : Nat -> Prop), listed.size = ops.size -> (left ops.size listed).length <= fuel -> (∀ z, z0 = some z -> listed.getD z true = true) ->
   (∀ k o, ops[k]? = some o -> listed.getD k true = true -> ∀ e, e ∈ o.after -> Region.binds .any e = true -> listed.getD e.on false = true) ->
   Rl B W0 ρ ok nt st a w -> Ext (fun i => n0 <= i) ρ0 ρ ok0 ok w0 w -> base + 4 * ops.size <= st.n -> (∀ k, k ∈ left ops.size listed -> ∀ j, j < 4 -> ρ (base + 4 * k + j) = none) -> runX P x0 ops base (left ops.size listed) Q st -> wpAny P .any ops Qc fuel listed a w := by
 intro fuel
 have hready : ∀ (listed : Array Bool), listed.size = ops.size -> Region.ready .any ops listed = [] -> left ops.size listed = [] := by
  intro listed hsz hr;cases hl : left ops.size listed with
  | nil => rfl
  | cons x rest =>
   exfalso;have hx : x ∈ left ops.size listed := by rw [hl]; simp
   simp only [left, List.mem_filter, List.mem_range, Bool.not_eq_true'] at hx;obtain ⟨ox, hox⟩ : ∃ o, ops[x]? = some o := ⟨ops[x]'hx.1, by simp⟩
   have hmem : x ∈ Region.ready .any ops listed := by
    rw [mem_ready];refine ⟨hx.2, ox, hox, fun e he hb => ?_⟩;have h0 := List.all_eq_true.1 hd x (by simpa using hx.1);simp only [hox, Bool.and_eq_true] at h0
    have hon : e.on < x := by
     have := List.all_eq_true.1 h0.1.1 e (by simpa using he);simp only [hb, Bool.not_true, Bool.false_or, decide_eq_true_eq] at this;exact this
    have hnot : listed.getD e.on true = true := by
     cases hq : listed.getD e.on true with
     | true => rfl
     | false =>
      exfalso;obtain ⟨pre, post, h1, -, h3⟩ := left_split hx.1 hx.2
      have hpre : pre = [] := by
       cases pre with
       | nil => rfl
       | cons z zs =>
        rw [h1] at hl;simp at hl;have := h3 z (by simp);omega
      subst hpre
      have hin : e.on ∈ left ops.size listed := by
       simp only [left, List.mem_filter, List.mem_range, Bool.not_eq_true'];exact ⟨by omega, hq⟩
      have hs : (left ops.size listed).Pairwise (· < ·) := (List.pairwise_lt_range).filter _;rw [hl] at hin hs;simp only [List.mem_cons] at hin;rcases hin with hin | hin
      ·omega
      ·have := (List.pairwise_cons.1 hs).1 _ hin;omega
    have : e.on < listed.size := by omega
    simp [this] at hnot ⊢;exact hnot
   rw [hr] at hmem; cases hmem
 induction fuel with
 | zero =>
  intro listed st a w ρ ok hsz hlen hz0 hcl R x hn hfree hr;have hl0 : left ops.size listed = [] := List.eq_nil_of_length_eq_zero (by omega);rw [hl0] at hr;refine ⟨?_, hQ st a w hr ⟨ρ, ok, R, x, by omega⟩⟩;cases hre : Region.ready .any ops listed with
  | nil => rfl
  | cons i rest =>
   exfalso;have hi : i ∈ Region.ready .any ops listed := by rw [hre]; simp
   obtain ⟨h1, oi, h2, _⟩ := mem_ready.1 hi
   have : i ∈ left ops.size listed := by
    simp only [left, List.mem_filter, List.mem_range, Bool.not_eq_true'];exact ⟨(Array.getElem?_eq_some_iff.1 h2).1, h1⟩
   rw [hl0] at this; cases this
 | succ fuel ih =>
  intro listed st a w ρ ok hsz hlen hz0 hcl R x hn hfree hr;refine ⟨fun hre => ?_, fun i hi => ?_⟩
  ·have hl0 := hready listed hsz hre;rw [hl0] at hr;exact hQ st a w hr ⟨ρ, ok, R, x, by omega⟩
  ·obtain ⟨hli, oi, hoi, hre⟩ := mem_ready.1 hi;have hlt : i < ops.size := (Array.getElem?_eq_some_iff.1 hoi).1;obtain ⟨pre, post, hl1, hl2, hl3⟩ := left_split hlt hli;have hopi := List.all_eq_true.1 hok oi (by rw [<- Array.getElem?_toList] at hoi; exact List.mem_of_getElem? hoi);simp only [operOk, Bool.and_eq_true] at hopi;have h0 := List.all_eq_true.1 hd i (by simpa using hlt);simp only [hoi, Bool.and_eq_true] at h0
   have hpre : ∀ y, y ∈ pre -> ∃ oy, Free ops y i oy oi /\ pairOk (sort oy.op) (sort oi.op) = true := by
    intro y hy;obtain ⟨hyi, hyl⟩ := hl3 y hy;have h1 := List.all_eq_true.1 h0.2 y (by simpa using hyi);simp only [Bool.or_eq_true] at h1;rcases h1 with h1 | h1
    ·exfalso;have := closed_mem hd hcl i oi hoi hre y (by simpa using h1);have hys : y < listed.size := by omega
     simp [hys] at this hyl;rw [this] at hyl; cases hyl
    ·obtain ⟨oy, hoy⟩ : ∃ oy, ops[y]? = some oy := ⟨ops[y]'(by omega), by simp⟩;simp only [hoy, Bool.and_eq_true] at h1;exact ⟨oy, ⟨hoy, by omega, h1.1⟩, h1.2⟩
   have hmem : ∀ k, k ∈ pre ++ post -> k ∈ left ops.size listed /\ k ≠ i := by
    intro k hk;have h1 : k ∈ left ops.size (listed.setIfInBounds i true) := by rw [hl2]; exact hk
    have h2 : k ∈ left ops.size listed := by
     rw [hl1];rcases List.mem_append.1 hk with h | h
     ·exact List.mem_append_left _ h
     ·exact List.mem_append_right _ (List.mem_cons_of_mem _ h)
    refine ⟨h2, fun e => ?_⟩;subst e;simp only [left, List.mem_filter, List.mem_range, Bool.not_eq_true'] at h1;have hks : k < listed.size := by omega
    simp [hks] at h1
   have himem : i ∈ left ops.size listed := by rw [hl1]; simp
   have hcl' : ∀ k o, ops[k]? = some o -> (listed.setIfInBounds i true).getD k true = true -> ∀ e, e ∈ o.after -> Region.binds .any e = true -> (listed.setIfInBounds i true).getD e.on false = true := by
    intro k o hk hkl e he hb;refine getD_set_true ?_;by_cases hki : k = i
    ·subst hki;rw [hoi] at hk; cases hk
     exact hre e he hb
    ·rw [getD_set_ne true (Ne.symm hki)] at hkl;exact hcl k o hk hkl e he hb
   have hlen' : (left ops.size (listed.setIfInBounds i true)).length <= fuel := by
    rw [hl2]; rw [hl1] at hlen; simp at hlen ⊢; omega
   have hnone : ∀ j, j < 4 -> st.h (base + 4 * i + j) = none := by
    intro j hj;have hp := hfree i himem j hj;cases hq : st.h (base + 4 * i + j) with
    | none => rfl
    | some e =>
     exfalso;rcases R.heap.row _ e hq with ⟨q, _⟩ | ⟨b, cap, cur, q, _⟩ <;> (rw [hp] at q; cases q)
   have hz1 : ∀ z, z0 = some z -> (listed.setIfInBounds i true).getD z true = true := fun z hz => by
    by_cases h : i = z
    ·subst h;have : i < listed.size := by omega
     simp [this]
    ·rw [getD_set_ne true h]; exact hz0 z hz
   have rest : ∀ st' a' w' ρ' ok', runX P x0 ops base (pre ++ post) Q st' -> Rl B W0 ρ' ok' nt st' a' w' -> Ext (Names (base + 4 * i) st.n) ρ ρ' ok ok' w w' -> st.n <= st'.n -> wpAny P .any ops Qc fuel (listed.setIfInBounds i true) a' w' := by
    intro st' a' w' ρ' ok' hk R' x' hn';refine ih _ st' a' w' ρ' ok' (by simpa using hsz) hlen' hz1 hcl' R' (x.trans (x'.weaken fun z hz => ?_)) (by omega) (fun k hk' j hj => ?_) (by rw [hl2]; exact hk)
    ·rcases hz with hz | hz <;> omega
    ·rw [hl2] at hk';obtain ⟨g1, g2⟩ := hmem k hk'
     have hkl : k < ops.size := by
      simp only [left, List.mem_filter, List.mem_range] at g1; exact g1.1
     rw [x'.pl _ (by rintro (hz | hz) <;> omega)];exact hfree k g1 j hj
   unfold wpOp;simp only [hoi];rw [want_sound R ops oi];rw [hl1] at hr
   have hseen : ∀ y, y ∈ pre -> y ∉ (closA ops).getD i [] := by
    intro y hy hc;obtain ⟨hyi, hyl⟩ := hl3 y hy;have := closed_mem hd hcl i oi hoi hre y hc;have hys : y < listed.size := by omega
    simp [hys] at this hyl;rw [this] at hyl; cases hyl
   by_cases hix : i = x0
   ·subst hix;obtain ⟨ox, g, args, tys, ho, hg, hop⟩ := xOk_op hX;rw [hoi] at ho;cases ho;have hw : wantA ops oi st.t = true := by unfold wantA; rw [hg]
    rw [if_pos hw];refine Or.inl ?_
    exact step_sound (draw := false) T R hopi.1 hopi.2 (by omega) (hfree i himem) (frontZ hoi hg hop pre st (fun y hy => by
     obtain ⟨oy, f, hp⟩ := hpre y hy;refine ⟨oy, f, ?_⟩;rcases xOk_before hX (hl3 y hy).1 f.gy with h | h
     ·exact absurd h (hseen y hy)
     ·exact h) hr) rest
   have hxpre : x0 ∉ pre := fun hy => hseen x0 hy (xOk_behind hX (hl3 x0 hy).1 hlt fun e => by have := hz0 i e; rw [hli] at this; cases this)
   have hrI : runI P ops base (pre ++ i :: []) (runX P x0 ops base post Q) st := by
    have e : pre ++ i :: post = (pre ++ [i]) ++ post := by simp
    rw [e, runX_app, runX_free (by simp only [List.mem_append, List.mem_singleton, not_or]; exact ⟨hxpre, fun e => hix e.symm⟩)] at hr;exact hr
   have back : ∀ {s : St}, runI P ops base (pre ++ []) (runX P x0 ops base post Q) s -> runX P x0 ops base (pre ++ post) Q s := fun {s} h => by
    rw [List.append_nil] at h;rw [runX_app, runX_free hxpre];exact h
   by_cases hw : wantA ops oi st.t = true
   ·rw [if_pos hw];refine Or.inl ?_
    have go : ∀ {h' : Heap} {r : AV}, Ef P (base + 4 * i) oi.op st.t st.h h' r -> runX P x0 ops base (pre ++ post) Q (St.put ⟨st.t, h', st.n⟩ oi.dst r) -> oi.wp P a w (wpAny P .any ops Qc fuel (listed.setIfInBounds i true)) Qc := by
     intro h' r he hk;exact step_sound (draw := true) T R hopi.1 hopi.2 (by omega) (hfree i himem) (ef_step (K := runX P x0 ops base (pre ++ post) Q) he hk) rest
    have hsort : sort oi.op = 0 \/ sort oi.op = 1 \/ sort oi.op = 2 := by
     unfold sort; split <;> simp
    rcases hsort with hs | hs | hs
    ·obtain ⟨rx, t', g1, g2, -, g4⟩ := front0 hoi pre st (fun y hy => (hpre y hy).imp fun oy h => h.1) (fun _ => hs) hrI;obtain ⟨h', g2⟩ := g2 hw;refine go (h' := st.h) (r := rx) ?_ (back g4);unfold Ef;rw [if_neg (by rw [hs]; simp)];exact ⟨[], ((g2.free (h2 := st.h) hs).1).congr (fun o ho => (g1.ev ho).symm), by simp, rfl⟩
    ·obtain ⟨rx, nx, t', h', g1, g2, g3, g4, g5⟩ := front1 hoi hs pre st (fun y hy => by
      obtain ⟨oy, f, hp⟩ := hpre y hy;refine ⟨oy, f, fun e => ?_⟩
      rw [e, hs] at hp; simp [pairOk] at hp) hw hnone hrI
     refine go (h' := updL st.h (base + 4 * i) nx) (r := rx) ?_ (back g5);unfold Ef;rw [if_neg (by rw [hs]; simp)];refine ⟨nx, Rd.less R (fun z hz => g2 z fun y hy hc => ?_) hopi.1 (by rw [hs]; simp) (g3.congr (fun o ho => (g1.ev ho).symm)), g4, rfl⟩;have hyl : y ∈ left ops.size listed := by rw [hl1]; exact List.mem_append_left _ hy
     have := hfree y hyl (z - (base + 4 * y)) (by omega);rw [show base + 4 * y + (z - (base + 4 * y)) = z by omega] at this;exact hz this
    ·obtain ⟨rx, t', h', g1, g2, g3⟩ := front2 hoi pre st (fun y hy => by
      obtain ⟨oy, f, hp⟩ := hpre y hy;refine ⟨oy, f, ?_⟩
      rw [hs] at hp; simpa [pairOk] using hp) hw hrI
     exact go (h' := h') (r := rx) (g2.congr (fun o ho => (g1.ev ho).symm)) (back g3)
   ·rw [if_neg hw];obtain ⟨rx, t', -, -, g3, g4⟩ := front0 hoi pre st (fun y hy => (hpre y hy).imp fun oy h => h.1) (fun h => absurd h hw) hrI;have := g3 hw;subst this;exact rest _ _ _ _ _ (back g4) (R.put (Ext.refl (Names (base + 4 * i) st.n) ρ ok w) R.heap (dst_lt hopi.2) .und) (Ext.refl _ _ _ _) (by cases oi.dst <;> exact Nat.le_refl _)
theorem fieldAddr_all {t : TypeId} {f : Nat} {ρ : Nat -> Option Place} {ok : Nat -> Prop} {w : World} {x r : AV} {u : Value} (hx : V B ρ ok w x u) (h : fieldAddrA P t x f = some r) : ∃ z, (∀ w', (Instr.fieldAt t u f).run P w' = .ok z w') /\ V B ρ ok w r z := by
 obtain ⟨z, h1, h2⟩ := fieldAddr_sound hx h;refine ⟨z, fun w' => ?_, h2⟩;unfold fieldAddrA at h;split at h
 ·rename_i fs htk;obtain ⟨fields, hu, hm⟩ := tk_struct htk;split at h
  ·rename_i off sz hf;obtain ⟨fld, hff, hfi⟩ := mapM_get hm f _ hf;have hfld : fields[f]? = some fld := by simpa using hff
   cases hq : P.info? fld.type with
   | none => rw [hq] at hfi; cases hfi
   | some i =>
    rw [hq] at hfi;simp only [Option.map_some, Option.some.injEq, Prod.mk.injEq] at hfi;obtain ⟨rfl, hsz⟩ := hfi;split at h
    ·cases h
    ·rename_i hne;have his := hsz;have hso : ∀ w, (sizeOf fld.type).run P w = .ok sz w := fun w => by simp [sizeOf, typeInfo, hq, his]
     split at h
     ·cases hx with
      | ptr hp =>
       simp [Instr.fieldAt, run_underlying hu, hfld, Instr.sureAddr, fieldPlace, hso, hne, addr_add, Nat.add_assoc] at h1 ⊢;exact h1
     ·obtain ⟨b, o, rfl, hb, us, g1, g2, g3, g4⟩ := cellsAt_rp hx;simp [Instr.fieldAt, run_underlying hu, hfld, Instr.sureAddr, fieldPlace, hso, hne, addr_add, Nat.add_assoc] at h1 ⊢;exact h1
     ·cases h
  ·cases h
 ·cases h
theorem x_sound (T : TypesOk P) (hm : P.follows .mixedOrders = true) {ρ0 : Nat -> Option Place} {ok0 : Nat -> Prop} {w0 : World} {n0 : Nat} {id : Nat} {ops : Array Oper} (hd : drawOk ops = true) {x0 : Nat} {z0 : Option Nat} (hX : xOk ops x0 z0 = true) (hok : (ops.toList.all (operOk nt)) = true) {Q : St -> Prop} {st : St} {a : Act} {w : World} (S : Since B W0 nt ρ0 ok0 w0 n0 st a w)
  (hr : preZ P z0 ops (runB P x0 z0 ops st.n ops.toList 0 Q) ⟨⟩ ⟨st.t, st.h, st.n + 4 * ops.size⟩) : (Code.region id ops true).wp P (fun e a w => e = .normal /\ ∃ st, Q st /\ Since B W0 nt ρ0 ok0 w0 n0 st a w) a w := by
 obtain ⟨ρ, ok, R, x, hn⟩ := S
 have R' : Rl B W0 ρ ok nt ⟨st.t, st.h, st.n + 4 * ops.size⟩ a w.drew := by
  refine ⟨⟨R.heap.below.drew, R.heap.base, R.heap.okb, fun i hi => R.heap.fresh i (by simp only at hi; omega), fun i e he => ?_, R.heap.inj⟩, fun k => (R.tmps k).mono (fun _ _ => rfl) (fun b hb => ⟨hb, rfl⟩), R.size, R.defers⟩;rcases R.heap.row i e he with h | ⟨b, cap, cur, q1, q2, q3, q4, q5, q6, q7, q8, q9, q10⟩
  ·exact Or.inl h
  ·exact Or.inr ⟨b, cap, cur, q1, q2, q3, q4, q5, q6, q7, q8, q9, q10.1, q10.2.1, fun j c u hc hu => (q10.2.2 j c u hc hu).mono (fun _ _ => rfl) (fun b hb => ⟨hb, rfl⟩)⟩
 have x' : Ext (fun i => n0 <= i) ρ0 ρ ok0 ok w0 w.drew := ⟨x.pl, x.keep, x.stay, x.new, x.size⟩
 have hrep : ∀ k, (Array.replicate ops.size false).getD k true = true -> ops.size <= k := by
  intro k hk;by_cases h : k < ops.size
  ·simp [h] at hk
  ·omega
 have hrun : ∀ s, runB P x0 z0 ops st.n ops.toList 0 Q s -> runX P x0 ops st.n ((List.range ops.size).filter fun j => !decide (z0 = some j)) Q s := by
  intro s h;have := runB_runX (P := P) (ops := ops) (base := st.n) (Q := Q) ops.toList 0 s rfl h;rw [List.range_eq_range'];simpa using this
 refine wp_region_any hm ?_;cases z0 with
 | none =>
  have hleft : left ops.size (Array.replicate ops.size false) = List.range ops.size := by
   unfold left;rw [List.filter_eq_self];intro k hk;simp at hk;simp [hk]
  refine draw_anyX T hn hd hX hok (fun st a w hq S => ⟨rfl, st, hq, S⟩) ops.size _ ⟨st.t, st.h, st.n + 4 * ops.size⟩ a w.drew ρ ok (by simp) (by rw [hleft]; simp) (fun z e => by cases e) (fun k o hk hl => ?_) R' x' (Nat.le_refl _) (fun k hk j hj => ?_) ?_
  ·have h1 := hrep k hl;have h2 := (Array.getElem?_eq_some_iff.1 hk).1;omega
  ·rw [hleft] at hk;exact R.heap.fresh _ (by omega)
  ·rw [hleft];have := hrun _ hr;rwa [List.filter_eq_self.2 (fun _ _ => by simp)] at this
 | some z =>
  have hX2 := hX;unfold xOk at hX2;simp only [Bool.and_eq_true] at hX2;obtain ⟨-, ⟨ho, hf⟩, hns⟩ := hX2;simp only [preZ] at hr;split at ho
  ·rename_i d ty k f t' pos after hoz;rw [hoz] at hr;obtain ⟨r, hr1, hr2⟩ := hr;have ha : after = #[] := by simpa [Array.isEmpty] using ho
   subst ha;have hzs : z < ops.size := (Array.getElem?_eq_some_iff.1 hoz).1;have hz0 : (Array.replicate ops.size false).getD z true = false := by simp [hzs]
   have hmem : z ∈ Region.ready .any ops (Array.replicate ops.size false) := by
    rw [mem_ready];exact ⟨hz0, _, hoz, fun e he => by simp at he⟩
   have hopz := List.all_eq_true.1 hok _ (by rw [<- Array.getElem?_toList] at hoz; exact List.mem_of_getElem? hoz);simp only [operOk, Bool.and_eq_true] at hopz;obtain ⟨zv, hall, hV⟩ := fieldAddr_all (P := P) (R'.tmps k) hr1;have hall' : ∀ w', (Instr.fieldAt ty (a.eval (.tmp k)) f).run P w' = .ok zv w' := hall;have hsz1 : ops.size = (ops.size - 1) + 1 := by omega
   conv => arg 5; rw [hsz1]
   refine wpAny_take (i := z) (v := zv) hoz hns hf (by simpa using hmem) (fun c a w h => by cases h.1) (Or.inl ⟨by simp [Region.wanted], fun w => by unfold execOp; simp [hall']⟩) ?_
   have hleft : left ops.size ((Array.replicate ops.size false).setIfInBounds z true) = (List.range ops.size).filter fun j => !decide (some z = some j) := by
    unfold left;refine List.filter_congr fun j hj => ?_
    simp only [List.mem_range] at hj;by_cases h : z = j
    ·subst h;simp [hj]
    ·rw [getD_set_ne true h];simp [hj, h]
   have hcount : ((List.range ops.size).filter fun j => !decide (some z = some j)).length <= ops.size - 1 := by
    have h1 : ((List.range ops.size).filter fun j => !decide (some z = some j)).length < (List.range ops.size).length := List.length_filter_lt_length_iff_exists.2 ⟨z, List.mem_range.2 hzs, by simp⟩;simp only [List.length_range] at h1;omega
   refine draw_anyX T hn hd hX hok (fun st a w hq S => ⟨rfl, st, hq, S⟩) (ops.size - 1) _ (St.put ⟨st.t, st.h, st.n + 4 * ops.size⟩ (some d) r) _ w.drew ρ ok (by simp) (by rw [hleft]; exact hcount) (fun z' e => ?_) (fun k2 o2 hk2 hl2 => ?_) (R'.put (Ext.refl (fun _ => False) ρ ok w.drew) R'.heap (dst_lt hopz.2) hV) x' (Nat.le_refl _) (fun k2 hk2 j hj => ?_) ?_
   ·cases e;simp [hzs]
   ·by_cases hk0 : k2 = z
    ·subst hk0;rw [hoz] at hk2; cases hk2
     intro e he; simp at he
    ·rw [getD_set_ne true (Ne.symm hk0)] at hl2;have h1 := hrep k2 hl2;have h2 := (Array.getElem?_eq_some_iff.1 hk2).1;omega
   ·have hk3 : k2 < ops.size := by
     rw [hleft] at hk2;simp only [List.mem_filter, List.mem_range] at hk2;exact hk2.1
    exact R.heap.fresh _ (by omega)
   ·rw [hleft];exact hrun _ hr2
  ·cases ho
def codeOkZ (P : Program) (T : List (Nat × List Nat)) (nt k x : Nat) (z : Option Nat) : Code -> Bool
 | .region id ops d => if id = k then d && ops.toList.all (operOk nt) && drawOk ops && xOk ops x z && P.follows .mixedOrders else codeOkG P T nt (.region id ops d)
 | .seq a b => codeOkZ P T nt k x z a && codeOkZ P T nt k x z b
 | .cond c a b => okOpd c && codeOkZ P T nt k x z a && codeOkZ P T nt k x z b
 | .block _ c => codeOkZ P T nt k x z c
 | c => codeOkG P T nt c
def wpZ0 (P : Program) (T : List (Nat × List Nat)) (k x : Nat) (z : Option Nat) : Code -> (Exit -> St -> Prop) -> St -> Prop
 | .region id ops d, Q, st => brA (decide (id = k)) (preZ P z ops (runB P x z ops st.n ops.toList 0 (Q .normal)) ⟨⟩ ⟨st.t, st.h, st.n + 4 * ops.size⟩) (wp0 P (markC T (.region id ops d)) Q st) ⟨⟩ ⟨⟩
 | .seq a b, Q, st => wpZ0 P T k x z a (thenA (wpZ0 P T k x z b Q) Q ⟨⟩ ⟨⟩) st
 | .cond c a b, Q, st => bindO (boolOf (evA st.t c)) (fun v => brA v (wpZ0 P T k x z a Q st) (wpZ0 P T k x z b Q st) ⟨⟩ ⟨⟩) ⟨⟩
 | .block id c, Q, st => wpZ0 P T k x z c (blockA id Q ⟨⟩) st
 | c, Q, st => wp0 P (markC T c) Q st
def wpZ (P : Program) (T : List (Nat × List Nat)) (k x : Nat) (z : Option Nat) (c : Code) (Q : Exit -> St -> Prop) (_ : Tg c) (_ : Tg Q) (st : St) : Prop := wpZ0 P T k x z c Q st
section
variable {Q : Exit -> St -> Prop} {st : St} {T : List (Nat × List Nat)} {k x : Nat} {z : Option Nat}
theorem wpZ_region {id : Nat} {l : List Oper} {d : Bool} : wpZ P T k x z (.region id l.toArray d) Q ⟨⟩ ⟨⟩ st = brA (decide (id = k)) (preZ P z l.toArray (barA P x z l.toArray st.n l 0 (Q .normal) ⟨⟩ ⟨⟩ ⟨⟩) ⟨⟩ ⟨st.t, st.h, st.n + 4 * l.length⟩) (wpA P (markC T (.region id l.toArray d)) Q ⟨⟩ ⟨⟩ st) ⟨⟩ ⟨⟩ := rfl
theorem wpZ_region_app {id : Nat} {a b : List Oper} {d : Bool} : wpZ P T k x z (.region id (List.append a b).toArray d) Q ⟨⟩ ⟨⟩ st = brA (decide (id = k)) (preZ P z (List.append a b).toArray (barA P x z (List.append a b).toArray st.n (List.append a b) 0 (Q .normal) ⟨⟩ ⟨⟩ ⟨⟩) ⟨⟩ ⟨st.t, st.h, st.n + 4 * (List.append a b).length⟩) (wpA P (markC T (.region id (List.append a b).toArray d)) Q ⟨⟩ ⟨⟩ st) ⟨⟩ ⟨⟩ := rfl
theorem wpZ_skip : wpZ P T k x z .skip Q ⟨⟩ ⟨⟩ st = Q .normal st := rfl
theorem wpZ_seq {a b : Code} : wpZ P T k x z (.seq a b) Q ⟨⟩ ⟨⟩ st = wpZ P T k x z a (thenA (wpZ P T k x z b Q ⟨⟩ ⟨⟩) Q ⟨⟩ ⟨⟩) ⟨⟩ ⟨⟩ st := rfl
theorem wpZ_cond {c : Operand} {a b : Code} : wpZ P T k x z (.cond c a b) Q ⟨⟩ ⟨⟩ st = bindO (boolOf (evA st.t c)) (fun v => brA v (wpZ P T k x z a Q ⟨⟩ ⟨⟩ st) (wpZ P T k x z b Q ⟨⟩ ⟨⟩ st) ⟨⟩ ⟨⟩) ⟨⟩ := rfl
theorem wpZ_block {id : Nat} {c : Code} : wpZ P T k x z (.block id c) Q ⟨⟩ ⟨⟩ st = wpZ P T k x z c (blockA id Q ⟨⟩) ⟨⟩ ⟨⟩ st := rfl
theorem wpZ_loop {c : Code} : wpZ P T k x z (.loop c) Q ⟨⟩ ⟨⟩ st = wpA P (markC T (.loop c)) Q ⟨⟩ ⟨⟩ st := rfl
theorem wpZ_exit {id : Nat} : wpZ P T k x z (.exit id) Q ⟨⟩ ⟨⟩ st = Q (.exit id) st := rfl
theorem wpZ_ret : wpZ P T k x z .ret Q ⟨⟩ ⟨⟩ st = Q .ret st := rfl
end
attribute [simp] wpZ_region wpZ_region_app wpZ_skip wpZ_seq wpZ_cond wpZ_block wpZ_loop wpZ_exit wpZ_ret barA_nil barA_cons
theorem code_soundZ (T : TypesOk P) {M : List (Nat × List Nat)} {k x : Nat} {z : Option Nat} {ρ0 : Nat -> Option Place} {ok0 : Nat -> Prop} {w0 : World} {n0 : Nat} : ∀ (c : Code) (Q : Exit -> St -> Prop) (st : St) (a : Act) (w : World), codeOkZ P M nt k x z c = true -> Since B W0 nt ρ0 ok0 w0 n0 st a w -> wpZ0 P M k x z c Q st ->
  c.wp P (fun e a w => ∃ st, Q e st /\ Since B W0 nt ρ0 ok0 w0 n0 st a w) a w := by
 intro c
 induction c with
 | region id ops d =>
  intro Q st a w hok S h;by_cases hid : id = k
  ·simp only [codeOkZ, if_pos hid, Bool.and_eq_true] at hok;simp only [wpZ0, hid, decide_true, brA_true] at h;obtain ⟨⟨⟨⟨hd, ho⟩, hdr⟩, hX⟩, hm⟩ := hok;subst hd;refine wp_mono (x_sound (Q := Q .normal) T hm hdr hX ho S h) ?_;rintro e a' w' ⟨rfl, st', hq, S'⟩;exact ⟨st', hq, S'⟩
  ·simp only [codeOkZ, if_neg hid] at hok;simp only [wpZ0, hid, decide_false, brA_false] at h;exact code_soundG T (M := M) _ Q st a w hok S h
 | seq y z ihx ihy =>
  intro Q st a w hok S h;simp only [codeOkZ, Bool.and_eq_true] at hok;refine wp_seq (wp_mono (ihx _ st a w hok.1 S h) ?_);rintro e a' w' ⟨st', hq, S'⟩;cases e with
  | normal => exact ihy Q st' a' w' hok.2 S' hq
  | exit id => exact ⟨st', hq, S'⟩
  | goto l => exact ⟨st', hq, S'⟩
  | ret => exact ⟨st', hq, S'⟩
  | panic c => exact ⟨st', hq, S'⟩
  | outgrown => exact ⟨st', hq, S'⟩
 | cond c y z ihx ihy =>
  intro Q st a w hok S h;simp only [codeOkZ, Bool.and_eq_true] at hok;obtain ⟨b, hb, hbr⟩ := h
  have hv : a.eval c = .bool b := by
   obtain ⟨ρ, ok, R, _, _⟩ := S;have := ev_sound R hok.1.1;unfold boolOf at hb;split at hb
   ·rename_i b' heq;rw [heq] at this;cases hb;exact V_at this
   ·cases hb
  refine wp_cond hv ?_;cases b with
  | true => exact ihx Q st a w hok.1.2 S hbr
  | false => exact ihy Q st a w hok.2 S hbr
 | block id c ih =>
  intro Q st a w hok S h;refine wp_block (wp_mono (ih _ st a w hok S h) ?_);rintro e a' w' ⟨st', hq, S'⟩;cases e with
  | exit k =>
   simp only [Exit.inBlock];simp only [blockA] at hq;split
   ·rename_i hk; rw [if_pos hk] at hq; exact ⟨st', hq, S'⟩
   ·rename_i hk; rw [if_neg hk] at hq; exact ⟨st', hq, S'⟩
  | normal => exact ⟨st', hq, S'⟩
  | goto l => exact ⟨st', hq, S'⟩
  | ret => exact ⟨st', hq, S'⟩
  | panic c => exact ⟨st', hq, S'⟩
  | outgrown => exact ⟨st', hq, S'⟩
 | skip => intro Q st a w hok S h; exact code_soundG T (M := M) _ Q st a w hok S h
 | loop c ih => intro Q st a w hok S h; exact code_soundG T (M := M) _ Q st a w hok S h
 | exit id => intro Q st a w hok S h; exact code_soundG T (M := M) _ Q st a w hok S h
 | ret => intro Q st a w hok S h; exact code_soundG T (M := M) _ Q st a w hok S h
 | rangeFunc => intro Q st a w hok; simp [codeOkZ, codeOkG] at hok
 | scope => intro Q st a w hok; simp [codeOkZ, codeOkG] at hok
 | label => intro Q st a w hok; simp [codeOkZ, codeOkG] at hok
 | goto => intro Q st a w hok; simp [codeOkZ, codeOkG] at hok
 | refuse => intro Q st a w hok; simp [codeOkZ, codeOkG] at hok
theorem CS_inlineZ (T : TypesOk P) (M : List (Nat × List Nat)) (k x : Nat) (z : Option Nat) {f : FuncId} {fn : Func} {c : Code} {args : List AV} {h : Heap} {n : Nat} {Q : Heap -> Nat -> AV -> Prop} (hf : P.funcs[f]? = some fn) (hc : Callable P f) (hb : fn.body = some c) (hok : codeOkZ P M fn.ntmps k x z c = true) (hl : args.length <= fn.ntmps)
  (hw : wpZ P M k x z c (endA P fn.results.toList Q ⟨⟩) ⟨⟩ ⟨⟩ ⟨initT args, h, n⟩) : CS P f args h n Q := by
 refine ⟨hc, fun B W0 ρ ok w vs H hv => ?_⟩;refine calls_of_wp hf hb ?_;have hlen := hv.1
 have R : Rl B W0 ρ ok fn.ntmps ⟨initT args, h, n⟩ { tmps := vs.toArray ++ Array.replicate (fn.ntmps - vs.toArray.size) undef, defers := [] } w := by
  refine ⟨H, fun k => ?_, by simp; omega, rfl⟩;show V B ρ ok w ((args[k]?).getD .und) _;by_cases hk : k < args.length
  ·obtain ⟨c, hc⟩ : ∃ c, args[k]? = some c := ⟨args[k], by simp⟩;obtain ⟨u, hu⟩ : ∃ u, vs[k]? = some u := ⟨vs[k]'(by omega), by simp⟩
   have e : (vs.toArray ++ Array.replicate (fn.ntmps - vs.toArray.size) undef).getD k undef = u := by
    have : k < vs.length := by omega
    obtain ⟨g1, g2⟩ := List.getElem?_eq_some_iff.1 hu;simp [Array.getElem?_append, this, g2]
   rw [hc, e];exact hv.2 k c u hc hu
  ·have e1 : args[k]? = none := by simp; omega
   have e2 : (vs.toArray ++ Array.replicate (fn.ntmps - vs.toArray.size) undef).getD k undef = undef := by
    have : ¬ k < vs.length := by omega
    simp only [Array.getD_eq_getD_getElem?, Array.getElem?_append];simp [this];by_cases h2 : k - vs.length < fn.ntmps - vs.length <;> simp [h2]
   rw [e1, e2];exact .und
 refine wp_mono (code_soundZ T c _ _ _ w hok ⟨ρ, ok, R, Ext.refl _ _ _ _, Nat.le_refl _⟩ hw) ?_;rintro e a' w' ⟨st', hq, ρ', ok', R', x1, hn⟩
 have fin : ∀ r, resultsA P fn.results.toList st' = some r -> Q st'.h st'.n r -> a'.defers = [] /\ ∃ v, (results fn a'.tmps).run P w' = .ok v w' /\ ∃ v_1 h' n' r ρ' ok', Ending.returned v = .returned v_1 /\ Q h' n' r /\ n <= n' /\ HRel B W0 ρ' ok' h' n' w' /\ V B ρ' ok' w' r v_1 /\ Ext (fun i => n <= i) ρ ρ' ok ok' w w' := by
  intro r hr hq;obtain ⟨z, h1, h2⟩ := results_sound R' hr;exact ⟨R'.defers, z, h1, z, _, _, r, ρ', ok', rfl, hq, hn, R'.heap, h2, x1⟩
 cases e with
 | normal => obtain ⟨r, hr, hq⟩ := hq; exact fin r hr hq
 | ret => obtain ⟨r, hr, hq⟩ := hq; exact fin r hr hq
 | exit id => exact hq.elim
 | goto l => exact hq.elim
 | panic c => exact hq.elim
 | outgrown => exact hq.elim
end
end Go.Proofs.YtadmfokicjjglaaGreatDoor.E
