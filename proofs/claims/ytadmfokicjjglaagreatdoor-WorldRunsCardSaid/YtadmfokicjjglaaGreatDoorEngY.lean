
/- EngY: ranges over a string; a map that is made, filled and looked into. What lies in such a block is kept beside the state. -/
import Derived.Test.YtadmfokicjjglaaGreatDoorX4
import Derived.Laws.RangeString
import Derived.MapKept
namespace Go.Proofs.YtadmfokicjjglaaGreatDoor.E
open Go.RowKit
set_option linter.unusedSimpArgs false
set_option maxRecDepth 100000
set_option linter.unusedVariables false
structure Gh where
 it : Option (Nat × ByteArray × Nat)
 mp : Option (Nat × List (Int × AV))
def wset (w : World) (b : Nat) (o : Obj) : World := { w with heap := w.heap.setIfInBounds b o }
theorem wset_size (w : World) (b : Nat) (o : Obj) : (wset w b o).heap.size = w.heap.size := by simp [wset]
theorem wset_same {w : World} {b : Nat} {o o' : Obj} (h : w.heap[b]? = some o') : (wset w b o).heap[b]? = some o := by
 have := (Array.getElem?_eq_some_iff.1 h).1;simp [wset, this]
theorem wset_ne {w : World} {b k : Nat} {o : Obj} (h : k ≠ b) : (wset w b o).heap[k]? = w.heap[k]? := by simp [wset, Array.getElem?_setIfInBounds, Ne.symm h]
def NC (w : World) (b : Nat) : Prop := ∀ cs t fz, w.heap[b]? ≠ some (.cells cs t fz)
theorem NC.none {w : World} {b j : Nat} {u : Value} (h : NC w b) : w.cell? ⟨b, j, none⟩ ≠ some u := by
 unfold World.cell?;simp only;split
 ·rename_i c t fz hb; exact absurd hb (h _ _ _)
 ·exact fun e => by cases e
theorem NC_iter {w : World} {b p : Nat} {s : ByteArray} (h : w.heap[b]? = some (.stringIter s p)) : NC w b := fun cs t fz e => by rw [h] at e; cases e
theorem NC_map {w : World} {b c : Nat} {es : Array MapEntry} (h : w.heap[b]? = some (.map es c)) : NC w b := fun cs t fz e => by rw [h] at e; cases e
section
variable {P : Program} {B : Nat} {W0 : World} {nt : Nat} {ρ : Nat -> Option Place} {ok : Nat -> Prop} {w : World} {h : Heap} {n : Nat} {b : Nat} {o : Obj}
theorem PV.ws {F : Nat -> Prop} {a : AV} {v : Value} (h : PV F w a v) (hb : NC w b) : PV F (wset w b o) a v := by
 induction h with
 | «at» h => exact .at h
 | nl => exact .nl
 | lst h1 h2 h3 h4 h5 h6 h7 _ ih =>
  refine .lst h1 h2 h3 h4 h5 h6 (fun ad e hn => ?_) ih;obtain ⟨g1, g2, g3⟩ := h7 ad e hn;refine ⟨g1, g2, fun j u hj => ?_⟩;have g := g3 j u hj;by_cases hab : ad.block = b
  ·rw [hab] at g; exact absurd g hb.none
  ·rw [cell_same (w := w) (wset_ne hab)]; exact g
theorem V.ws {c : AV} {v : Value} (h : V B ρ ok w c v) (hb : NC w b) : V B ρ ok (wset w b o) c v := by
 induction h with
 | und => exact .und
 | nilv => exact .nilv
 | nn h => exact .nn h
 | «at» h => exact .at h
 | nl => exact .nl
 | lst h => exact .lst (h.ws hb)
 | rp h1 h2 h3 h4 h5 =>
  rename_i cells b' off us;refine .rp h1 h2 h3 (fun j u hj => ?_) (fun j c u hc hu => (h5 j c u hc hu).ws hb);have g := h4 j u hj;by_cases hab : b' = b
  ·rw [hab] at g; exact absurd g hb.none
  ·rw [cell_same (w := w) (wset_ne hab)]; exact g
 | own0 h => exact .own0 h
 | own h h1 h2 => exact .own h h1 h2
 | ptr h => exact .ptr h
 | agg h1 h2 _ ih => exact .agg h1 h2 ih
 | tup h1 _ ih => exact .tup h1 ih
 | fn h1 _ ih => exact .fn h1 ih
 | err => exact .err
theorem HRel.ws (H : HRel B W0 ρ ok h n w) (hB : B <= b) (hb : NC w b) : HRel B W0 ρ ok h n (wset w b o) := by
 refine ⟨⟨H.below.os, H.below.tape, H.below.output, by rw [wset_size]; exact H.below.size, fun k hk => by rw [wset_ne (by omega)]; exact H.below.block k hk⟩, H.base, fun k hk => by rw [wset_size]; exact H.okb k hk, H.fresh, fun i e he => ?_, H.inj⟩;rcases H.row i e he with h1 | ⟨b', cap, cur, h1, h2, h3, h4, h5, h6, h7, h8, h9, hcr⟩
 ·exact Or.inl h1
 ·have hne : b' ≠ b := fun e => by subst e; exact hb _ _ _ h4
  exact Or.inr ⟨b', cap, cur, h1, h2, h3, by rw [wset_ne hne]; exact h4, h5, h6, h7, h8, h9, hcr.1, hcr.2.1, fun j c u hc hu => (hcr.2.2 j c u hc hu).ws hb⟩
theorem Rl.ws {st : St} {a : Act} (R : Rl B W0 ρ ok nt st a w) (hB : B <= b) (hb : NC w b) : Rl B W0 ρ ok nt st a (wset w b o) := ⟨R.heap.ws hB hb, fun k => (R.tmps k).ws hb, R.size, R.defers⟩
theorem HRel.name (H : HRel B W0 ρ ok h n w) {id : Nat} (hid : id < n) (hf : ρ id = none) (p : Place) : HRel B W0 (upd ρ id (some p)) ok h n w := by
 have hρ : ∀ i, ρ i ≠ none -> upd ρ id (some p) i = ρ i := fun i hi => upd_ne _ _ (fun e => hi (by rw [e]; exact hf))
 refine ⟨H.below, H.base, H.okb, fun i hi => ?_, fun i e he => H.row_mono hρ (fun b hb => ⟨hb, rfl⟩) he fun b cap s hp => ⟨rfl, fun hb => ?_⟩, fun i j e e' b c s c' s' hi hj hbi hbj => ?_⟩
 ·rw [upd_ne _ _ (by omega)]; exact H.fresh i hi
 ·rcases H.row i e he with ⟨q, _⟩ | ⟨b', cap', cur, h1, h2, h3, _⟩
  ·rw [hp] at q; cases q
  ·rw [hp] at h1;simp only [Option.some.injEq, Prod.mk.injEq] at h1;obtain ⟨rfl, -, -⟩ := h1;exact h3 hb
 ·have key : ∀ i e, h i = some e -> ρ i ≠ none := fun i e he q => by
   rcases H.row i e he with ⟨q', _⟩ | ⟨b', cap', cur, h1, _⟩
   ·rw [q] at q'; cases q'
   ·rw [q] at h1; cases h1
  rw [hρ i (key i e hi)] at hbi;rw [hρ j (key j e' hj)] at hbj;exact H.inj i j e e' b c s c' s' hi hj hbi hbj
inductive ML (B : Nat) (ρ : Nat -> Option Place) (ok : Nat -> Prop) (w : World) : List (Int × AV) -> List MapEntry -> Prop
 | nil : ML B ρ ok w [] []
 | cons {x : Int × AV} {e : MapEntry} {l : List (Int × AV)} {es : List MapEntry} : e.key = .int .i32 x.1 -> V B ρ ok w x.2 e.val -> ML B ρ ok w l es -> ML B ρ ok w (x :: l) (e :: es)
theorem ML.mono {l : List (Int × AV)} {es : List MapEntry} {ρ' : Nat -> Option Place} {ok' : Nat -> Prop} {w' : World} (h : ML B ρ ok w l es) (hv : ∀ c v, V B ρ ok w c v -> V B ρ' ok' w' c v) : ML B ρ' ok' w' l es := by
 induction h with
 | nil => exact .nil
 | cons h1 h2 _ ih => exact .cons h1 (hv _ _ h2) ih
theorem ML.snoc {l : List (Int × AV)} {es : List MapEntry} {x : Int × AV} {e : MapEntry} (h : ML B ρ ok w l es) (h1 : e.key = .int .i32 x.1) (h2 : V B ρ ok w x.2 e.val) : ML B ρ ok w (l ++ [x]) (es ++ [e]) := by
 induction h with
 | nil => exact .cons h1 h2 .nil
 | cons g1 g2 _ ih => exact .cons g1 g2 ih
def lookM (n : Int) : List (Int × AV) -> Option AV
 | [] => none
 | x :: l => if n = x.1 then some x.2 else lookM n l
theorem findNow_some {l : List (Int × AV)} {es : List MapEntry} (h : ML B ρ ok w l es) {k : Int} {v : AV} (hl : lookM k l = some v) : ∀ i, ∃ j u, Instr.findNow (.int .i32) (.int .i32 k) es i = some (some (j, u)) /\ V B ρ ok w v u := by
 induction h with
 | nil => cases hl
 | @cons x e l es h1 h2 _ ih =>
  intro i;unfold lookM at hl;by_cases hk : k = x.1
  ·rw [if_pos hk] at hl;cases hl;exact ⟨i, e.val, by simp [Instr.findNow, Instr.sameNow, h1, hk], h2⟩
  ·rw [if_neg hk] at hl;obtain ⟨j, u, g1, g2⟩ := ih hl (i + 1);have hb : (k == x.1) = false := by simpa using hk
   exact ⟨j, u, by simp [Instr.findNow, Instr.sameNow, h1, hb, g1], g2⟩
theorem findNow_none {l : List (Int × AV)} {es : List MapEntry} (h : ML B ρ ok w l es) {k : Int} (hl : lookM k l = none) : ∀ i, Instr.findNow (.int .i32) (.int .i32 k) es i = some none := by
 induction h with
 | nil => intro i; rfl
 | @cons x e l es h1 h2 _ ih =>
  intro i;unfold lookM at hl;by_cases hk : k = x.1
  ·rw [if_pos hk] at hl; cases hl
  ·rw [if_neg hk] at hl;have hb : (k == x.1) = false := by simpa using hk
   simp [Instr.findNow, Instr.sameNow, h1, hb, ih hl (i + 1)]
def mapTy (P : Program) (t : TypeId) : Bool := match P.underlying t with
 | some (.map k _) => (match P.underlying k with | some (.int .i32) => true | _ => false)
 | _ => false
theorem mapTy_eq {t : TypeId} (h : mapTy P t = true) : ∃ k e, P.underlying t = some (.map k e) /\ P.underlying k = some (.int .i32) := by
 unfold mapTy at h;split at h
 ·rename_i k e h1;split at h
  ·rename_i h2; exact ⟨k, e, h1, h2⟩
  ·cases h
 ·cases h
theorem run_checkKey {k : TypeId} (hk : P.underlying k = some (.int .i32)) (c : Bool) (x : Int) (m : Nat) (w : World) : (Instr.checkKey c (m + 1) k (.int .i32 x)).run P w = .ok () w := by
 unfold Instr.checkKey;simp [run_underlying hk]
theorem run_lookM {t : TypeId} (ht : mapTy P t = true) {c : Nat} {es : Array MapEntry} (hb : w.heap[b]? = some (.map es c)) {k : Int} {j : Nat} {u : Value} (hf : Instr.findNow (.int .i32) (.int .i32 k) es.toList 0 = some (some (j, u))) :
  (Instr.lookup t (.map (some b)) (.int .i32 k) false).run P w = .ok u w := by
 obtain ⟨kt, e, h1, h2⟩ := mapTy_eq ht;have hc := run_checkKey h2 es.isEmpty k 9999 w;simp only [Nat.reduceAdd] at hc;simp [Instr.lookup, run_underlying h1, getObj, Sem.run, hb, hc, Instr.findKey, run_underlying h2, hf]
theorem run_insM {t : TypeId} (ht : mapTy P t = true) {c : Nat} {es : Array MapEntry} (hb : w.heap[b]? = some (.map es c)) {k : Int} {u : Value} (hf : Instr.findNow (.int .i32) (.int .i32 k) es.toList 0 = some none) :
  (Instr.mapUpdate t (.map (some b)) (.int .i32 k) u).run P w = .ok () (wset w b (.map (es.push { key := .int .i32 k, val := u, born := c }) (c + 1))) := by
 obtain ⟨kt, e, h1, h2⟩ := mapTy_eq ht;have hc := run_checkKey h2 false k 9999 w;simp only [Nat.reduceAdd] at hc;simp [Instr.mapUpdate, run_underlying h1, getObj, setObj, Sem.run, hb, hc, Instr.findKey, run_underlying h2, hf, wset]
def asciiAt (s : ByteArray) (p : Nat) : Option Nat := (s.data.toList[p]?).bind fun b => if b.toNat < 128 then some b.toNat else none
theorem run_nextY {s : ByteArray} {p k : Nat} {ty : TypeId} (hb : w.heap[b]? = some (.stringIter s p)) (hk : asciiAt s p = some k) :
  (Instr.next (.pointer (some ⟨b, 0, none⟩)) true ty).run P w = .ok (.tuple #[.bool true, .int .i64 p, .int .i32 k]) (wset w b (.stringIter s (p + 1))) := by
 unfold asciiAt at hk;cases hq : s.data.toList[p]? with
 | none => rw [hq] at hk; cases hk
 | some c =>
  rw [hq] at hk;simp only [Option.bind_some] at hk;split at hk
  ·rename_i ha;cases hk;obtain ⟨g1, g2⟩ := List.getElem?_eq_some_iff.1 hq
   have hlt : p < s.size := by
    show p < s.data.size;simpa using g1
   have e : s[p]'hlt = c := by
    rw [<- g2];rfl
   have hd := decode_ascii s p hlt (by rw [e]; exact ha);rw [e] at hd;simp [Instr.next, getObj, setObj, Sem.run, hb, hlt, hd, wset, goInt]
  ·cases hk
theorem run_nextZ {s : ByteArray} {p : Nat} {ty : TypeId} (hb : w.heap[b]? = some (.stringIter s p)) (hk : ¬ p < s.size) :
  (Instr.next (.pointer (some ⟨b, 0, none⟩)) true ty).run P w = .ok (.tuple #[.bool false]) w := by
 simp [Instr.next, getObj, Sem.run, hb, hk]
theorem V_tupY1 {a : AV} {u : Value} (h1 : V B ρ ok w a u) : V B ρ ok w (.tup [a]) (.tuple #[u]) := by
 refine V.tup (l := [a]) (vs := [u]) rfl fun j c x hc hx => ?_
 match j, hc, hx with
 | 0, hc, hx => cases hc; cases hx; exact h1
theorem V_tupY3 {a b d : AV} {u v y : Value} (h1 : V B ρ ok w a u) (h2 : V B ρ ok w b v) (h3 : V B ρ ok w d y) : V B ρ ok w (.tup [a, b, d]) (.tuple #[u, v, y]) := by
 refine V.tup (l := [a, b, d]) (vs := [u, v, y]) rfl fun j c x hc hx => ?_
 match j, hc, hx with
 | 0, hc, hx => cases hc; cases hx; exact h1
 | 1, hc, hx => cases hc; cases hx; exact h2
 | 2, hc, hx => cases hc; cases hx; exact h3
def strOf : AV -> Option ByteArray
 | .at (.string s) => some s
 | _ => none
def itOf : AV -> Option Nat
 | .ptr i 1 0 0 => some i
 | _ => none
def mapOf : AV -> Option Nat
 | .at (.map (some b)) => some b
 | _ => none
def i32Of : AV -> Option Int
 | .at (.int .i32 n) => some n
 | _ => none
@[simp] theorem strOf_at (s : ByteArray) : strOf (.at (.string s)) = some s := rfl
@[simp] theorem itOf_ptr (i : Nat) : itOf (.ptr i 1 0 0) = some i := rfl
@[simp] theorem mapOf_at (b : Nat) : mapOf (.at (.map (some b))) = some b := rfl
@[simp] theorem i32Of_at (n : Int) : i32Of (.at (.int .i32 n)) = some n := rfl
theorem strOf_eq {a : AV} {s : ByteArray} (h : strOf a = some s) : a = .at (.string s) := by
 unfold strOf at h; split at h <;> cases h; rfl
theorem itOf_eq {a : AV} {i : Nat} (h : itOf a = some i) : a = .ptr i 1 0 0 := by
 unfold itOf at h; split at h <;> cases h; rfl
theorem mapOf_eq {a : AV} {i : Nat} (h : mapOf a = some i) : a = .at (.map (some i)) := by
 unfold mapOf at h; split at h <;> cases h; rfl
theorem i32Of_eq {a : AV} {i : Int} (h : i32Of a = some i) : a = .at (.int .i32 i) := by
 unfold i32Of at h; split at h <;> cases h; rfl
def insA (l : List (Int × AV)) (n : Int) (v : AV) : Option (List (Int × AV)) := match lookM n l with
 | none => some (l ++ [(n, v)])
 | some _ => none
def stepY (P : Program) (id : Nat) (d : Option Tmp) (op : Op) (K : Gh -> St -> Prop) (_ : Tg op) (_ : Tg K) (g : Gh) (st : St) : Prop :=
 match op with
 | .range ty x => if isStr (tkOf P ty) then bindO (strOf (evA st.t x)) (fun s => K ⟨some (id, s, 0), g.mp⟩ (st.put d (.ptr id 1 0 0))) ⟨⟩ else False
 | .next it true => bindO g.it (fun q => bindO (itOf (evA st.t it)) (fun j => j = q.1 /\
   brA (decide (q.2.2 < q.2.1.size)) (bindO (asciiAt q.2.1 q.2.2) (fun n => K ⟨some (q.1, q.2.1, q.2.2 + 1), g.mp⟩ (st.put d (.tup [.at (.bool true), .at (.int .i64 q.2.2), .at (.int .i32 n)]))) ⟨⟩) (K ⟨some q, g.mp⟩ (st.put d (.tup [.at (.bool false)]))) ⟨⟩ ⟨⟩) ⟨⟩) ⟨⟩
 | .makeMap ty none => ∀ b, K ⟨g.it, some (b, [])⟩ (st.put d (.at (.map (some b))))
 | .insert ty m k x => if mapTy P ty then bindO g.mp (fun q => bindO (mapOf (evA st.t m)) (fun b => b = q.1 /\ bindO (i32Of (evA st.t k)) (fun n => bindO (insA q.2 n (evA st.t x)) (fun l => K ⟨g.it, some (q.1, l)⟩ (st.put d .und)) ⟨⟩) ⟨⟩) ⟨⟩) ⟨⟩ else False
 | .lookup ty m k false => if mapTy P ty then bindO g.mp (fun q => bindO (mapOf (evA st.t m)) (fun b => b = q.1 /\ bindO (i32Of (evA st.t k)) (fun n => bindO (lookM n q.2) (fun v => K ⟨g.it, some q⟩ (st.put d v)) ⟨⟩) ⟨⟩) ⟨⟩) ⟨⟩ else False
 | op => stepA P false id d op (K g) ⟨⟩ ⟨⟩ st
def GhOk (B : Nat) (ρ : Nat -> Option Place) (ok0 ok : Nat -> Prop) (w : World) (g : Gh) : Prop :=
 (∀ i s p, g.it = some (i, s, p) -> ∃ b, ρ i = some (some (b, 1, 1)) /\ B <= b /\ ok b /\ ¬ ok0 b /\ w.heap[b]? = some (.stringIter s p)) /\
 (∀ b l, g.mp = some (b, l) -> B <= b /\ ok b /\ ¬ ok0 b /\ ∃ es c, w.heap[b]? = some (.map es c) /\ ML B ρ ok w l es.toList)
theorem GhOk.ext {ok0 : Nat -> Prop} {g : Gh} {U : Nat -> Prop} {ρ' : Nat -> Option Place} {ok' : Nat -> Prop} {w' : World} (G : GhOk B ρ ok0 ok w g) (x : Ext U ρ ρ' ok ok' w w') : GhOk B ρ' ok0 ok' w' g := by
 refine ⟨fun i s p hi => ?_, fun b l hb => ?_⟩
 ·obtain ⟨b, h1, h2, h3, h4, h5⟩ := G.1 i s p hi;exact ⟨b, (x.keep i (by rw [h1]; simp)).trans h1, h2, (x.stay b h3).1, h4, (x.stay b h3).2.trans h5⟩
 ·obtain ⟨h1, h2, h3, es, c, h4, h5⟩ := G.2 b l hb;exact ⟨h1, (x.stay b h2).1, h3, es, c, (x.stay b h2).2.trans h4, h5.mono fun c v hv => hv.ext x⟩
def SinceY (B : Nat) (W0 : World) (nt : Nat) (ρ0 : Nat -> Option Place) (ok0 : Nat -> Prop) (w0 : World) (n0 : Nat) (g : Gh) (st : St) (a : Act) (w : World) : Prop :=
 ∃ ρ ok, Rl B W0 ρ ok nt st a w /\ Ext (fun i => n0 <= i) ρ0 ρ ok0 ok w0 w /\ n0 <= st.n /\ GhOk B ρ ok0 ok w g
theorem Ext.ws {U : Nat -> Prop} {ρ0 ρ1 : Nat -> Option Place} {ok0 ok1 : Nat -> Prop} {w0 : World} (x : Ext U ρ0 ρ1 ok0 ok1 w0 w) (hb : ¬ ok0 b) : Ext U ρ0 ρ1 ok0 ok1 w0 (wset w b o) :=
 ⟨x.pl, x.keep, fun k hk => ⟨(x.stay k hk).1, by rw [wset_ne (fun e => hb (by rw [<- e]; exact hk))]; exact (x.stay k hk).2⟩, x.new, by rw [wset_size]; exact x.size⟩
theorem stepY_sound (T : TypesOk P) {ρ0 : Nat -> Option Place} {ok0 : Nat -> Prop} {w0 : World} {n0 : Nat} {st : St} {a : Act} {g : Gh} (R : Rl B W0 ρ ok nt st a w) (x : Ext (fun i => n0 <= i) ρ0 ρ ok0 ok w0 w) (G : GhOk B ρ ok0 ok w g)
  {op : Oper} {id : Nat} (hok : opOk op.op = true) (hd : dstOk nt op.dst = true) (h0 : n0 <= id) (hid : id + 4 <= st.n) (hfree : ∀ j, j < 4 -> ρ (id + j) = none) {K : Gh -> St -> Prop} {i j} (hs : stepY P id op.dst op.op K i j g st) {next : Act -> World -> Prop} {Q : Exit -> Act -> World -> Prop}
  (hn : ∀ g' st' a' w' ρ' ok', K g' st' -> Rl B W0 ρ' ok' nt st' a' w' -> Ext (fun i => n0 <= i) ρ0 ρ' ok0 ok' w0 w' -> (∀ i, ¬ Names id st.n i -> ρ' i = ρ i) -> st.n <= st'.n -> GhOk B ρ' ok0 ok' w' g' -> next a' w') : op.wp P a w next Q := by
 have ev : ∀ x, okOpd x = true -> V B ρ ok w (evA st.t x) (a.eval x) := fun x hx => ev_sound R hx
 have hd' := dst_lt hd;have hf0 : ρ id = none := by simpa using hfree 0 (by omega)
 have hBs : B <= w.heap.size := Nat.le_trans R.heap.base.le R.heap.below.size;have hn0 : ¬ ok0 w.heap.size := fun hq => by have := R.heap.okb _ (x.stay _ hq).1; omega
 have hpn : ∀ (d : Option Tmp) (r : AV), st.n <= (st.put d r).n := fun d r => by cases d <;> exact Nat.le_refl _
 have other : ∀ (hs : stepA P false id op.dst op.op (K g) ⟨⟩ ⟨⟩ st), op.wp P a w next Q := fun hs => by
  refine step_sound T R hok hd hid hfree hs fun st' a' w' ρ' ok' hk R' x' hn' => ?_
  refine hn g st' a' w' ρ' ok' hk R' (x.trans (x'.weaken fun i hi => ?_)) (fun i hi => x'.pl i hi) hn' (G.ext x');rcases hi with hi | hi <;> omega
 have hb := fun (o : Obj) => (Below.refl w.heap.size w).alloc (Nat.le_refl _) o
 have halloc := fun (o : Obj) => heap_alloc_new w o
 have hasz : ∀ o, (w.alloc o).heap.size = w.heap.size + 1 := fun o => by simp
 generalize hop : op.op = p at *;unfold stepY at hs;split at hs
 ·-- range
  rename_i ty y _;split at hs
  ·rename_i hty;obtain ⟨s, hs1, hk⟩ := hs;have hv := V_at (strOf_eq hs1 ▸ ev y (opd hok (by simp [Op.operands])))
   have hts : P.underlying ty = some .string := by
    unfold isStr at hty;split at hty
    ·rename_i h1; exact tk_string h1
    ·cases hty
   unfold Oper.wp
   have e : (execOp a.eval op).run P w = .ok (.value (.pointer (some ⟨w.heap.size, 0, none⟩))) (w.iter s 0) := by
    unfold execOp;simp [hop, hv, run_range_string w ty s hts]
   rw [e];obtain ⟨g1, g2⟩ := R.heap.grow (hb (.stringIter s 0));have g3 := g1.name (id := id) (by omega) hf0 (some (w.heap.size, 1, 1));have hρ : ∀ i, ρ i ≠ none -> upd ρ id (some (some (w.heap.size, 1, 1))) i = ρ i := fun i hi => upd_ne _ _ (fun e => hi (by rw [e]; exact hf0))
   have x2 : Ext (fun i => i = id) ρ (upd ρ id (some (some (w.heap.size, 1, 1)))) ok (fun x => ok x \/ (w.heap.size <= x /\ x < (w.alloc (.stringIter s 0)).heap.size)) w (w.alloc (.stringIter s 0)) :=
    ⟨fun i hi => upd_ne _ _ hi, hρ, g2.stay, g2.new, g2.size⟩
   have hnew : ok w.heap.size \/ (w.heap.size <= w.heap.size /\ w.heap.size < (w.alloc (.stringIter s 0)).heap.size) := Or.inr ⟨Nat.le_refl _, by rw [hasz]; omega⟩;have G2 := G.ext x2;have hv2 : V B (upd ρ id (some (some (w.heap.size, 1, 1)))) (fun x => ok x \/ (w.heap.size <= x /\ x < (w.alloc (.stringIter s 0)).heap.size)) (w.alloc (.stringIter s 0)) (.ptr id 1 0 0) (.pointer (some ⟨w.heap.size, 0 * 1 + 0, none⟩)) := V.ptr (by rw [upd_same])
   exact hn _ _ _ _ _ _ hk (R.put x2 g3 hd' hv2) (x.trans (x2.weaken fun i hi => by omega)) (fun i hi => x2.pl i fun e => hi (Or.inl (by omega))) (hpn _ _)
    ⟨fun i s' p' hi => by cases hi; exact ⟨w.heap.size, by rw [upd_same], hBs, hnew, hn0, halloc _⟩, G2.2⟩
  ·exact hs.elim
 ·-- next
  rename_i it _;obtain ⟨⟨qi, s, p⟩, hg, j, hj, rfl, hs⟩ := hs;obtain ⟨b, h1, h2, h3, h4, h5⟩ := G.1 _ _ _ hg;have hv := itOf_eq hj ▸ ev it (opd hok (by simp [Op.operands]))
  have hv2 : a.eval it = .pointer (some ⟨b, 0, none⟩) := by
   generalize a.eval it = u at hv;cases hv with
   | ptr hp =>
    rw [h1] at hp;simp only [Option.some.injEq, Prod.mk.injEq] at hp;obtain ⟨rfl, -, -⟩ := hp;rfl
  by_cases hlt : p < s.size
  ·simp only [hlt, decide_true, brA_true] at hs;obtain ⟨c, hc, hk⟩ := hs;unfold Oper.wp
   have e : (execOp a.eval op).run P w = .ok (.value (.tuple #[.bool true, .int .i64 p, .int .i32 c])) (wset w b (.stringIter s (p + 1))) := by
    unfold execOp;simp [hop, hv2, run_nextY h5 hc]
   rw [e];have hnc := NC_iter h5;have R2 : Rl B W0 ρ ok nt st a (wset w b (.stringIter s (p + 1))) := R.ws h2 hnc;refine hn _ _ _ _ ρ ok hk (R2.put (Ext.refl (fun _ => False) _ _ _) R2.heap hd' (V_tupY3 (.at rfl) (.at rfl) (.at rfl))) (x.ws h4) (fun _ _ => rfl) (hpn _ _) ⟨fun i s' p' hi => ?_, fun b' l hm => ?_⟩
   ·cases hi; exact ⟨b, h1, h2, h3, h4, wset_same h5⟩
   ·obtain ⟨k1, k2, k3, es, c', k4, k5⟩ := G.2 b' l hm;have hne : b' ≠ b := fun e => by subst e; rw [h5] at k4; cases k4
    exact ⟨k1, k2, k3, es, c', by rw [wset_ne hne]; exact k4, k5.mono fun c v hv => hv.ws hnc⟩
  ·simp only [hlt, decide_false, brA_false] at hs;unfold Oper.wp
   have e : (execOp a.eval op).run P w = .ok (.value (.tuple #[.bool false])) w := by
    unfold execOp;simp [hop, hv2, run_nextZ h5 hlt]
   rw [e];refine hn _ _ _ _ ρ ok hs (R.put (Ext.refl (fun _ => False) _ _ _) R.heap hd' (V_tupY1 (.at rfl))) x (fun _ _ => rfl) (hpn _ _) ⟨fun i s' p' hi => ?_, G.2⟩;cases hi; exact ⟨b, h1, h2, h3, h4, h5⟩
 ·-- makeMap
  rename_i ty _;have hk := hs w.heap.size;unfold Oper.wp
  have e : (execOp a.eval op).run P w = .ok (.value (.map (some w.heap.size))) (w.alloc (.map #[] 0)) := by
   unfold execOp;simp [hop, Instr.makeMap, newObj, Sem.run]
  rw [e];obtain ⟨g1, g2⟩ := R.heap.grow (hb (.map #[] 0));have hnew : ok w.heap.size \/ (w.heap.size <= w.heap.size /\ w.heap.size < (w.alloc (.map #[] 0)).heap.size) := Or.inr ⟨Nat.le_refl _, by rw [hasz]; omega⟩;have G2 := G.ext g2
  exact hn _ _ _ _ _ _ hk (R.put g2 g1 hd' (.at rfl)) (x.trans (g2.weaken fun i hi => hi.elim)) (fun i hi => rfl) (hpn _ _)
   ⟨G2.1, fun b l hb => by cases hb; exact ⟨hBs, hnew, hn0, #[], 0, halloc _, .nil⟩⟩
 ·-- insert
  rename_i ty m k y _;split at hs
  ·rename_i hty;obtain ⟨⟨qb, l⟩, hg, b, hb', rfl, c, hc, l', hl', hk⟩ := hs;obtain ⟨h1, h2, h3, es, c', h4, h5⟩ := G.2 _ _ hg;have e1 := V_at (mapOf_eq hb' ▸ ev m (opd hok (by simp [Op.operands])));have e2 := V_at (i32Of_eq hc ▸ ev k (opd hok (by simp [Op.operands])));have e3 := ev y (opd hok (by simp [Op.operands]));unfold insA at hl';split at hl'
   ·rename_i hlm;cases hl';unfold Oper.wp
    have e : (execOp a.eval op).run P w = .ok .skip (wset w b (.map (es.push { key := .int .i32 c, val := a.eval y, born := c' }) (c' + 1))) := by
     unfold execOp;simp [hop, e1, e2, run_insM hty h4 (u := a.eval y) (findNow_none h5 hlm 0)]
    rw [e];have hnc := NC_map h4;have R2 : Rl B W0 ρ ok nt st a (wset w b (.map (es.push { key := .int .i32 c, val := a.eval y, born := c' }) (c' + 1))) := R.ws h1 hnc;refine hn _ _ _ _ ρ ok hk (R2.put (Ext.refl (fun _ => False) _ _ _) R2.heap hd' .und) (x.ws h3) (fun _ _ => rfl) (hpn _ _) ⟨fun i s' p' hi => ?_, fun b' l'' hm => ?_⟩
    ·obtain ⟨b2, k1, k2, k3, k4, k5⟩ := G.1 _ _ _ hi;have hne : b2 ≠ b := fun e => by subst e; rw [h4] at k5; cases k5
     exact ⟨b2, k1, k2, k3, k4, by rw [wset_ne hne]; exact k5⟩
    ·cases hm;refine ⟨h1, h2, h3, _, _, wset_same h4, ?_⟩;rw [Array.toList_push];exact (h5.mono fun c v hv => hv.ws hnc).snoc rfl (e3.ws hnc)
   ·cases hl'
  ·exact hs.elim
 ·-- lookup
  rename_i ty m k _;split at hs
  ·rename_i hty;obtain ⟨⟨qb, l⟩, hg, b, hb', rfl, c, hc, v, hlm, hk⟩ := hs;obtain ⟨h1, h2, h3, es, c', h4, h5⟩ := G.2 _ _ hg;have e1 := V_at (mapOf_eq hb' ▸ ev m (opd hok (by simp [Op.operands])));have e2 := V_at (i32Of_eq hc ▸ ev k (opd hok (by simp [Op.operands])));obtain ⟨j, u, f1, f2⟩ := findNow_some h5 hlm 0;unfold Oper.wp
   have e : (execOp a.eval op).run P w = .ok (.value u) w := by
    unfold execOp;simp [hop, e1, e2, run_lookM hty h4 f1]
   rw [e];refine hn _ _ _ _ ρ ok hk (R.put (Ext.refl (fun _ => False) _ _ _) R.heap hd' f2) x (fun _ _ => rfl) (hpn _ _) ⟨G.1, fun b' l'' hm => ?_⟩;cases hm;exact ⟨h1, h2, h3, es, c', h4, h5⟩
  ·exact hs.elim
 ·exact other hs
def runY (P : Program) (ops : Array Oper) (base : Nat) : List Oper -> Nat -> (Gh -> St -> Prop) -> Gh -> St -> Prop
 | [], _, Q, g, st => Q g st
 | o :: os, k, Q, g, st =>
  brA (wantA ops o st.t) (stepY P (base + 4 * k) o.dst o.op (runY P ops base os (k + 1) Q) ⟨⟩ ⟨⟩ g st) (runY P ops base os (k + 1) Q g (st.put o.dst .und)) ⟨⟩ ⟨⟩
def regY (P : Program) (ops : Array Oper) (base : Nat) (os : List Oper) (k : Nat) (Q : Gh -> St -> Prop) (_ : Tg ops) (_ : Tg os) (_ : Tg Q) (g : Gh) (st : St) : Prop := runY P ops base os k Q g st
theorem regY_nil {ops : Array Oper} {base : Nat} {k : Nat} {Q : Gh -> St -> Prop} {g : Gh} {st : St} : regY P ops base [] k Q ⟨⟩ ⟨⟩ ⟨⟩ g st = Q g st := rfl
theorem regY_cons {ops : Array Oper} {base : Nat} {os : List Oper} {k : Nat} {Q : Gh -> St -> Prop} {g : Gh} {st : St} {d : Option Tmp} {op : Op} {ty : TypeId} {pos : String} {after : Array Edge} :
  regY P ops base (⟨d, op, ty, pos, after, none⟩ :: os) k Q ⟨⟩ ⟨⟩ ⟨⟩ g st = stepY P (base + 4 * k) d op (regY P ops base os (k + 1) Q ⟨⟩ ⟨⟩ ⟨⟩) ⟨⟩ ⟨⟩ g st := rfl
theorem regY_guard {ops : Array Oper} {base : Nat} {os : List Oper} {k : Nat} {Q : Gh -> St -> Prop} {g : Gh} {st : St} {d : Option Tmp} {op : Op} {ty : TypeId} {pos : String} {after : Array Edge} {gu : Nat × Bool} :
  regY P ops base (⟨d, op, ty, pos, after, some gu⟩ :: os) k Q ⟨⟩ ⟨⟩ ⟨⟩ g st =
   brA (wantA ops ⟨d, op, ty, pos, after, some gu⟩ st.t) (stepY P (base + 4 * k) d op (regY P ops base os (k + 1) Q ⟨⟩ ⟨⟩ ⟨⟩) ⟨⟩ ⟨⟩ g st) (regY P ops base os (k + 1) Q ⟨⟩ ⟨⟩ ⟨⟩ g (st.put d .und)) ⟨⟩ ⟨⟩ := rfl
def thenY (K : Gh -> St -> Prop) (Q : Gh -> Exit -> St -> Prop) (_ : Tg K) (_ : Tg Q) : Gh -> Exit -> St -> Prop
 | g, .normal, s => K g s
 | g, e, s => Q g e s
@[simp] theorem thenY_normal (K : Gh -> St -> Prop) (Q : Gh -> Exit -> St -> Prop) (g : Gh) (s : St) (i j) : thenY K Q i j g .normal s = K g s := rfl
@[simp] theorem thenY_ret (K : Gh -> St -> Prop) (Q : Gh -> Exit -> St -> Prop) (g : Gh) (s : St) (i j) : thenY K Q i j g .ret s = Q g .ret s := rfl
@[simp] theorem thenY_exit (K : Gh -> St -> Prop) (Q : Gh -> Exit -> St -> Prop) (g : Gh) (s : St) (k : Nat) (i j) : thenY K Q i j g (.exit k) s = Q g (.exit k) s := rfl
def blockY (id : Nat) (Q : Gh -> Exit -> St -> Prop) (_ : Tg Q) : Gh -> Exit -> St -> Prop
 | g, .exit k, s => if k = id then Q g .normal s else Q g (.exit k) s
 | g, e, s => Q g e s
@[simp] theorem blockY_normal (id : Nat) (Q : Gh -> Exit -> St -> Prop) (g : Gh) (s : St) (i) : blockY id Q i g .normal s = Q g .normal s := rfl
@[simp] theorem blockY_ret (id : Nat) (Q : Gh -> Exit -> St -> Prop) (g : Gh) (s : St) (i) : blockY id Q i g .ret s = Q g .ret s := rfl
@[simp] theorem blockY_exit (id : Nat) (Q : Gh -> Exit -> St -> Prop) (g : Gh) (s : St) (k : Nat) (i) : blockY id Q i g (.exit k) s = brA (decide (k = id)) (Q g .normal s) (Q g (.exit k) s) ⟨⟩ ⟨⟩ := by
 by_cases h : k = id <;> simp [h, blockY]
def endY (P : Program) (l : List ResultVar) (Q : Heap -> Nat -> AV -> Prop) (_ : Tg Q) : Gh -> Exit -> St -> Prop := fun _ => endA P l Q ⟨⟩
@[simp] theorem endY_normal {l : List ResultVar} {Q : Heap -> Nat -> AV -> Prop} {g : Gh} {st : St} : endY P l Q ⟨⟩ g .normal st = bindO (resultsA P l st) (fun r => Q st.h st.n r) ⟨⟩ := rfl
@[simp] theorem endY_ret {l : List ResultVar} {Q : Heap -> Nat -> AV -> Prop} {g : Gh} {st : St} : endY P l Q ⟨⟩ g .ret st = bindO (resultsA P l st) (fun r => Q st.h st.n r) ⟨⟩ := rfl
def hasR (ks : List Nat) : Code -> Bool
 | .region id _ _ => ks.contains id
 | .seq a b => hasR ks a || hasR ks b
 | .cond _ x y => hasR ks x || hasR ks y
 | .block _ c => hasR ks c
 | .loop c => hasR ks c
 | _ => false
def codeOkY (P : Program) (T : List (Nat × List Nat)) (nt : Nat) (ks : List Nat) : Code -> Bool
 | .region id ops d => if ks.contains id then ops.toList.all (operOk nt) && !d else codeOkG P T nt (.region id ops d)
 | .seq a b => codeOkY P T nt ks a && codeOkY P T nt ks b
 | .cond c x y => okOpd c && codeOkY P T nt ks x && codeOkY P T nt ks y
 | .block _ c => codeOkY P T nt ks c
 | .loop c => if hasR ks c then codeOkY P T nt ks c else codeOkG P T nt (.loop c)
 | c => codeOkG P T nt c
def wpY0 (P : Program) (T : List (Nat × List Nat)) (ks : List Nat) : Code -> (Gh -> Exit -> St -> Prop) -> Gh -> St -> Prop
 | .region id ops d, Q, g, st => brA (ks.contains id) (runY P ops st.n ops.toList 0 (fun g => Q g .normal) g ⟨st.t, st.h, st.n + 4 * ops.size⟩) (wp0 P (markC T (.region id ops d)) (Q g) st) ⟨⟩ ⟨⟩
 | .seq a b, Q, g, st => wpY0 P T ks a (thenY (wpY0 P T ks b Q) Q ⟨⟩ ⟨⟩) g st
 | .cond c x y, Q, g, st => bindO (boolOf (evA st.t c)) (fun b => brA b (wpY0 P T ks x Q g st) (wpY0 P T ks y Q g st) ⟨⟩ ⟨⟩) ⟨⟩
 | .block id c, Q, g, st => wpY0 P T ks c (blockY id Q ⟨⟩) g st
 | .loop c, Q, g, st => brA (hasR ks c) (∃ (I : Gh -> St -> Prop) (m : Gh -> St -> Nat), I g st /\ ∀ g s, I g s -> wpY0 P T ks c (thenY (fun g' s' => I g' s' /\ m g' s' < m g s) Q ⟨⟩ ⟨⟩) g s) (wp0 P (markC T (.loop c)) (Q g) st) ⟨⟩ ⟨⟩
 | c, Q, g, st => wp0 P (markC T c) (Q g) st
def wpY (P : Program) (T : List (Nat × List Nat)) (ks : List Nat) (c : Code) (Q : Gh -> Exit -> St -> Prop) (_ : Tg c) (_ : Tg Q) (g : Gh) (st : St) : Prop := wpY0 P T ks c Q g st
section
variable {Q : Gh -> Exit -> St -> Prop} {g : Gh} {st : St} {M : List (Nat × List Nat)} {ks : List Nat}
theorem wpY_region {id : Nat} {l : List Oper} {d : Bool} : wpY P M ks (.region id l.toArray d) Q ⟨⟩ ⟨⟩ g st = brA (ks.contains id) (regY P l.toArray st.n l 0 (fun g => Q g .normal) ⟨⟩ ⟨⟩ ⟨⟩ g ⟨st.t, st.h, st.n + 4 * l.length⟩) (wpA P (markC M (.region id l.toArray d)) (Q g) ⟨⟩ ⟨⟩ st) ⟨⟩ ⟨⟩ := rfl
theorem wpY_region_app {id : Nat} {a b l : List Oper} {d : Bool} [i : App a b l] : wpY P M ks (.region id (List.append a b).toArray d) Q ⟨⟩ ⟨⟩ g st = brA (ks.contains id) (regY P l.toArray st.n l 0 (fun g => Q g .normal) ⟨⟩ ⟨⟩ ⟨⟩ g ⟨st.t, st.h, st.n + 4 * l.length⟩) (wpA P (markC M (.region id l.toArray d)) (Q g) ⟨⟩ ⟨⟩ st) ⟨⟩ ⟨⟩ := by
 have e : (List.append a b).toArray = l.toArray := by rw [<- i.h]; rfl
 rw [e];exact wpY_region
theorem wpY_skip : wpY P M ks .skip Q ⟨⟩ ⟨⟩ g st = Q g .normal st := rfl
theorem wpY_seq {a b : Code} : wpY P M ks (.seq a b) Q ⟨⟩ ⟨⟩ g st = wpY P M ks a (thenY (wpY P M ks b Q ⟨⟩ ⟨⟩) Q ⟨⟩ ⟨⟩) ⟨⟩ ⟨⟩ g st := rfl
theorem wpY_cond {c : Operand} {x y : Code} : wpY P M ks (.cond c x y) Q ⟨⟩ ⟨⟩ g st = bindO (boolOf (evA st.t c)) (fun b => brA b (wpY P M ks x Q ⟨⟩ ⟨⟩ g st) (wpY P M ks y Q ⟨⟩ ⟨⟩ g st) ⟨⟩ ⟨⟩) ⟨⟩ := rfl
theorem wpY_block {id : Nat} {c : Code} : wpY P M ks (.block id c) Q ⟨⟩ ⟨⟩ g st = wpY P M ks c (blockY id Q ⟨⟩) ⟨⟩ ⟨⟩ g st := rfl
theorem wpY_exit {id : Nat} : wpY P M ks (.exit id) Q ⟨⟩ ⟨⟩ g st = Q g (.exit id) st := rfl
theorem wpY_ret : wpY P M ks .ret Q ⟨⟩ ⟨⟩ g st = Q g .ret st := rfl
theorem wpY_pure {c : Code} (h : hasR ks c = false) (hq : wpA P (markC M (.loop c)) (Q g) ⟨⟩ ⟨⟩ st) : wpY P M ks (.loop c) Q ⟨⟩ ⟨⟩ g st := by
 show brA (hasR ks c) _ _ ⟨⟩ ⟨⟩;rw [h];exact hq
def NextY (n : Nat) (i : Nat) (s : ByteArray) (k : Nat) (R : Nat -> Option (Nat × List (Int × AV)) -> Heap -> Nat -> (Nat -> AV) -> Prop) (g : Gh) (st : St) : Prop :=
 (∃ k', k' <= n /\ g.it = some (i, s, k') /\ R k' g.mp st.h st.n st.t) /\ n - ((g.it.map fun q => q.2.2).getD 0) < n - k
theorem nextY {n i k : Nat} {s : ByteArray} {R : Nat -> Option (Nat × List (Int × AV)) -> Heap -> Nat -> (Nat -> AV) -> Prop} {mp : Option (Nat × List (Int × AV))} {st : St} (hk : k < n) (h : R (k + 1) mp st.h st.n st.t) : NextY n i s k R ⟨some (i, s, k + 1), mp⟩ st :=
 ⟨⟨k + 1, hk, rfl, h⟩, by simp; omega⟩
theorem loopY {c : Code} {t0 : Nat -> AV} {hp0 : Heap} {m0 : Nat} {mp0 : Option (Nat × List (Int × AV))} (n i : Nat) (s : ByteArray) (R : Nat -> Option (Nat × List (Int × AV)) -> Heap -> Nat -> (Nat -> AV) -> Prop) (hr : hasR ks c = true) (h0 : R 0 mp0 hp0 m0 t0)
  (round : ∀ (k : Nat) (t : Nat -> AV) (h : Heap) (m : Nat) (mp : Option (Nat × List (Int × AV))), k < n -> R k mp h m t -> wpY P M ks c (thenY (NextY n i s k R) Q ⟨⟩ ⟨⟩) ⟨⟩ ⟨⟩ ⟨some (i, s, k), mp⟩ ⟨t, h, m⟩)
  (last : ∀ (t : Nat -> AV) (h : Heap) (m : Nat) (mp : Option (Nat × List (Int × AV))), R n mp h m t -> wpY P M ks c (thenY (NextY n i s n R) Q ⟨⟩ ⟨⟩) ⟨⟩ ⟨⟩ ⟨some (i, s, n), mp⟩ ⟨t, h, m⟩) : wpY P M ks (.loop c) Q ⟨⟩ ⟨⟩ ⟨some (i, s, 0), mp0⟩ ⟨t0, hp0, m0⟩ := by
 show brA (hasR ks c) _ _ ⟨⟩ ⟨⟩;rw [hr];refine ⟨fun g st => ∃ k, k <= n /\ g.it = some (i, s, k) /\ R k g.mp st.h st.n st.t, fun g _ => n - ((g.it.map fun q => q.2.2).getD 0), ⟨0, Nat.zero_le _, rfl, h0⟩, ?_⟩;rintro ⟨it, mp⟩ ⟨t, h, m⟩ ⟨k, hk, rfl, h1⟩;rcases Nat.lt_or_ge k n with hlt | hge
 ·exact round k t h m mp hlt h1
 ·have : k = n := by omega
  subst this;exact last t h m mp h1
end
attribute [simp] wpY_region wpY_region_app wpY_skip wpY_seq wpY_cond wpY_block wpY_exit wpY_ret regY_nil regY_cons regY_guard stepY.eq_def insA.eq_def lookM
section
variable {ρ0 : Nat -> Option Place} {ok0 : Nat -> Prop} {w0 : World} {n0 : Nat}
theorem listY_sound (T : TypesOk P) {ops : Array Oper} {base len : Nat} (hb0 : n0 <= base) {Q : Gh -> St -> Prop} {Qc : Exit -> Act -> World -> Prop}
  (hQ : ∀ g st a w, Q g st -> SinceY B W0 nt ρ0 ok0 w0 n0 g st a w -> Qc .normal a w) :
  ∀ (os : List Oper) (k : Nat) (g : Gh) (st : St) (a : Act) (w : World) (ρ : Nat -> Option Place) (ok : Nat -> Prop), k + os.length = len -> (os.all (operOk nt)) = true -> Rl B W0 ρ ok nt st a w -> Ext (fun i => n0 <= i) ρ0 ρ ok0 ok w0 w -> GhOk B ρ ok0 ok w g -> base + 4 * len <= st.n ->
   (∀ i, base + 4 * k <= i -> i < base + 4 * len -> ρ i = none) -> runY P ops base os k Q g st -> wpList P ops Qc os a w
 | [], k, g, st, a, w, ρ, ok, _, _, R, x, G, hn, _, hr => wpList_nil (hQ g st a w hr ⟨ρ, ok, R, x, by omega, G⟩)
 | o :: os, k, g, st, a, w, ρ, ok, hl, hok, R, x, G, hn, hfree, hr => by
  simp only [List.all_cons, Bool.and_eq_true] at hok;obtain ⟨ho, hos⟩ := hok;simp only [operOk, Bool.and_eq_true] at ho;simp only [List.length_cons] at hl;simp only [runY] at hr;refine wpList_step fun K hK => ?_
  rw [want_sound R ops o];unfold brA at hr;split
  ·rename_i hw;rw [if_pos hw] at hr;refine stepY_sound T R x G ho.1 ho.2 (by omega) (by omega) (fun j hj => hfree _ (by omega) (by omega)) hr fun g' st' a' w' ρ' ok' hk R' x' hp hn' G' => hK a' w' ?_
   refine listY_sound (base := base) (len := len) T hb0 hQ os (k + 1) g' st' a' w' ρ' ok' (by omega) hos R' x' G' (by omega) (fun i h1 h2 => ?_) hk;rw [hp i (by rintro (hi | hi) <;> omega)];exact hfree i (by omega) h2
  ·rename_i hw;rw [if_neg hw] at hr;refine hK _ _ (listY_sound (base := base) (len := len) T hb0 hQ os (k + 1) g _ _ w ρ ok (by omega) hos (R.put (Ext.refl (fun _ => False) ρ ok w) R.heap (dst_lt ho.2) .und) x G (by cases o.dst <;> exact hn) (fun i h1 h2 => hfree i (by omega) h2) hr)
theorem pieceY (T : TypesOk P) {M : List (Nat × List Nat)} {c : Code} (hok : codeOkG P M nt c = true) {Q : Exit -> St -> Prop} {g : Gh} {st : St} {a : Act} {w : World} (S : SinceY B W0 nt ρ0 ok0 w0 n0 g st a w) (h : wp0 P (markC M c) Q st) :
  c.wp P (fun e a w => ∃ st, Q e st /\ SinceY B W0 nt ρ0 ok0 w0 n0 g st a w) a w := by
 obtain ⟨ρ, ok, R, x, hn, G⟩ := S;refine wp_mono (code_soundG T c Q st a w hok (ρ0 := ρ) (ok0 := ok) (w0 := w) (n0 := st.n) ⟨ρ, ok, R, Ext.refl _ _ _ _, Nat.le_refl _⟩ h) ?_;rintro e a' w' ⟨st', hq, ρ', ok', R', x', hn'⟩;exact ⟨st', hq, ρ', ok', R', x.trans (x'.weaken fun i hi => Nat.le_trans hn hi), Nat.le_trans hn hn', G.ext x'⟩
open Classical in
noncomputable def leastY (I : Gh -> St -> Prop) (S : Gh -> St -> Act -> World -> Prop) (m : Gh -> St -> Nat) (a : Act) (w : World) : Nat :=
 if h : ∃ k, ∃ g st, I g st /\ S g st a w /\ m g st = k then Classical.choose (exists_least h) else 0
theorem leastY_spec {I : Gh -> St -> Prop} {S : Gh -> St -> Act -> World -> Prop} {m : Gh -> St -> Nat} {a : Act} {w : World} {g : Gh} {st : St} (hi : I g st) (hs : S g st a w) : (∃ g' st', I g' st' /\ S g' st' a w /\ m g' st' = leastY I S m a w) /\ leastY I S m a w <= m g st := by
 have h : ∃ k, ∃ g st, I g st /\ S g st a w /\ m g st = k := ⟨_, g, st, hi, hs, rfl⟩;have e : leastY I S m a w = Classical.choose (exists_least h) := by unfold leastY; rw [dif_pos h]
 obtain ⟨h1, h2⟩ := Classical.choose_spec (exists_least h);rw [e];exact ⟨h1, h2 _ ⟨g, st, hi, hs, rfl⟩⟩
theorem code_soundY (T : TypesOk P) {M : List (Nat × List Nat)} {ks : List Nat} : ∀ (c : Code) (Q : Gh -> Exit -> St -> Prop) (g : Gh) (st : St) (a : Act) (w : World), codeOkY P M nt ks c = true -> SinceY B W0 nt ρ0 ok0 w0 n0 g st a w -> wpY0 P M ks c Q g st ->
  c.wp P (fun e a w => ∃ g st, Q g e st /\ SinceY B W0 nt ρ0 ok0 w0 n0 g st a w) a w := by
 have lift : ∀ {c : Code} {Q : Gh -> Exit -> St -> Prop} {g : Gh} {st : St} {a : Act} {w : World}, codeOkG P M nt c = true -> SinceY B W0 nt ρ0 ok0 w0 n0 g st a w -> wp0 P (markC M c) (Q g) st -> c.wp P (fun e a w => ∃ g st, Q g e st /\ SinceY B W0 nt ρ0 ok0 w0 n0 g st a w) a w :=
  fun {c Q g st a w} hok S h => wp_mono (pieceY T hok S h) fun e a' w' ⟨st', hq, S'⟩ => ⟨g, st', hq, S'⟩
 intro c
 induction c with
 | region id ops d =>
  intro Q g st a w hok S h;simp only [codeOkY] at hok;simp only [wpY0] at h;by_cases hid : ks.contains id = true
  ·rw [if_pos hid] at hok;rw [hid, brA_true] at h;simp only [Bool.and_eq_true, Bool.not_eq_true'] at hok;obtain ⟨ho, rfl⟩ := hok;obtain ⟨ρ, ok, R, x, hn, G⟩ := S;have R' : Rl B W0 ρ ok nt ⟨st.t, st.h, st.n + 4 * ops.size⟩ a w := ⟨⟨R.heap.below, R.heap.base, R.heap.okb, fun i hi => R.heap.fresh i (by simp only at hi; omega), R.heap.row, R.heap.inj⟩, R.tmps, R.size, R.defers⟩;exact wp_region_list (listY_sound (base := st.n) (len := ops.size) T hn (fun g st a w hq S => ⟨g, st, hq, S⟩) ops.toList 0 g _ a w ρ ok (by simp) ho R' x G (Nat.le_refl _) (fun i h1 h2 => R.heap.fresh i (by omega)) h)
  ·have hid' : ks.contains id = false := by simpa using hid
   rw [if_neg hid] at hok;rw [hid', brA_false] at h;exact lift hok S h
 | seq x y ihx ihy =>
  intro Q g st a w hok S h;simp only [codeOkY, Bool.and_eq_true] at hok;refine wp_seq (wp_mono (ihx _ g st a w hok.1 S h) ?_);rintro e a' w' ⟨g', st', hq, S'⟩;cases e with
  | normal => exact ihy Q g' st' a' w' hok.2 S' hq
  | exit id => exact ⟨g', st', hq, S'⟩
  | goto l => exact ⟨g', st', hq, S'⟩
  | ret => exact ⟨g', st', hq, S'⟩
  | panic c => exact ⟨g', st', hq, S'⟩
  | outgrown => exact ⟨g', st', hq, S'⟩
 | cond c x y ihx ihy =>
  intro Q g st a w hok S h;simp only [codeOkY, Bool.and_eq_true] at hok;obtain ⟨b, hb, hbr⟩ := h
  have hv : a.eval c = .bool b := by
   obtain ⟨ρ, ok, R, _, _⟩ := S;have := ev_sound R hok.1.1;unfold boolOf at hb;split at hb
   ·rename_i b' heq;rw [heq] at this;cases hb;exact V_at this
   ·cases hb
  refine wp_cond hv ?_;cases b with
  | true => exact ihx Q g st a w hok.1.2 S hbr
  | false => exact ihy Q g st a w hok.2 S hbr
 | block id c ih =>
  intro Q g st a w hok S h;refine wp_block (wp_mono (ih _ g st a w hok S h) ?_);rintro e a' w' ⟨g', st', hq, S'⟩;cases e with
  | exit k =>
   simp only [Exit.inBlock];simp only [blockY] at hq;split
   ·rename_i hk; rw [if_pos hk] at hq; exact ⟨g', st', hq, S'⟩
   ·rename_i hk; rw [if_neg hk] at hq; exact ⟨g', st', hq, S'⟩
  | normal => exact ⟨g', st', hq, S'⟩
  | goto l => exact ⟨g', st', hq, S'⟩
  | ret => exact ⟨g', st', hq, S'⟩
  | panic c => exact ⟨g', st', hq, S'⟩
  | outgrown => exact ⟨g', st', hq, S'⟩
 | loop c ih =>
  intro Q g st a w hok S h;simp only [codeOkY] at hok;simp only [wpY0] at h;by_cases hr : hasR ks c = true
  ·rw [if_pos hr] at hok;rw [hr, brA_true] at h;obtain ⟨I, m, h0, hround⟩ := h;refine wp_loop (fun a w => ∃ g st, I g st /\ SinceY B W0 nt ρ0 ok0 w0 n0 g st a w) (leastY I (SinceY B W0 nt ρ0 ok0 w0 n0) m) ⟨g, st, h0, S⟩ ?_;rintro a w ⟨g1, s, hi, hs⟩;obtain ⟨⟨g', s', hi', hs', hm'⟩, -⟩ := leastY_spec (m := m) hi hs;refine wp_mono (ih _ g' s' a w hok hs' (hround g' s' hi')) ?_;rintro e a' w' ⟨g2, st', hq, S'⟩;cases e with
   | normal =>
    refine ⟨⟨g2, st', hq.1, S'⟩, ?_⟩;have := (leastY_spec (m := m) hq.1 S').2;have := hq.2;omega
   | exit id => exact ⟨g2, st', hq, S'⟩
   | goto l => exact ⟨g2, st', hq, S'⟩
   | ret => exact ⟨g2, st', hq, S'⟩
   | panic c => exact ⟨g2, st', hq, S'⟩
   | outgrown => exact ⟨g2, st', hq, S'⟩
  ·have hr' : hasR ks c = false := by simpa using hr
   rw [if_neg hr] at hok;rw [hr', brA_false] at h;exact lift hok S h
 | skip => intro Q g st a w hok S h; exact lift (c := .skip) hok S h
 | exit id => intro Q g st a w hok S h; exact lift (c := .exit id) hok S h
 | ret => intro Q g st a w hok S h; exact lift (c := .ret) hok S h
 | rangeFunc => intro Q g st a w hok; simp [codeOkY, codeOkG] at hok
 | scope => intro Q g st a w hok; simp [codeOkY, codeOkG] at hok
 | label => intro Q g st a w hok; simp [codeOkY, codeOkG] at hok
 | goto => intro Q g st a w hok; simp [codeOkY, codeOkG] at hok
 | refuse => intro Q g st a w hok; simp [codeOkY, codeOkG] at hok
end
theorem CS_inlineY (T : TypesOk P) (M : List (Nat × List Nat)) (ks : List Nat) {f : FuncId} {fn : Func} {c : Code} {args : List AV} {h : Heap} {n : Nat} {Q : Heap -> Nat -> AV -> Prop} (hf : P.funcs[f]? = some fn) (hc : Callable P f) (hb : fn.body = some c) (hok : codeOkY P M fn.ntmps ks c = true) (hl : args.length <= fn.ntmps)
  (hw : wpY P M ks c (endY P fn.results.toList Q ⟨⟩) ⟨⟩ ⟨⟩ ⟨none, none⟩ ⟨initT args, h, n⟩) : CS P f args h n Q := by
 refine ⟨hc, fun B W0 ρ ok w vs H hv => ?_⟩;refine calls_of_wp hf hb ?_;have hlen := hv.1
 have R : Rl B W0 ρ ok fn.ntmps ⟨initT args, h, n⟩ { tmps := vs.toArray ++ Array.replicate (fn.ntmps - vs.toArray.size) undef, defers := [] } w := by
  refine ⟨H, fun k => ?_, by simp; omega, rfl⟩;show V B ρ ok w ((args[k]?).getD .und) _;by_cases hk : k < args.length
  ·obtain ⟨c, hc⟩ : ∃ c, args[k]? = some c := ⟨args[k], by simp⟩;obtain ⟨u, hu⟩ : ∃ u, vs[k]? = some u := ⟨vs[k]'(by omega), by simp⟩
   have e : (vs.toArray ++ Array.replicate (fn.ntmps - vs.toArray.size) undef).getD k undef = u := by
    have : k < vs.length := by omega
    obtain ⟨g1, g2⟩ := List.getElem?_eq_some_iff.1 hu;simp [Array.getElem?_append, this, g2]
   rw [hc, e];exact hv.2 k c u hc hu
  ·have e1 : args[k]? = none := by simp; omega
   have e2 : (vs.toArray ++ Array.replicate (fn.ntmps - vs.toArray.size) undef).getD k undef = undef := by
    have : ¬ k < vs.length := by omega
    simp only [Array.getD_eq_getD_getElem?, Array.getElem?_append];simp [this];by_cases h2 : k - vs.length < fn.ntmps - vs.length <;> simp [h2]
   rw [e1, e2];exact .und
 refine wp_mono (code_soundY T c _ _ _ _ w hok ⟨ρ, ok, R, Ext.refl _ _ _ _, Nat.le_refl _, ⟨fun i s p e => (by cases e), fun b l e => (by cases e)⟩⟩ hw) ?_;rintro e a' w' ⟨g', st', hq, ρ', ok', R', x, hn, -⟩
 have fin : ∀ r, resultsA P fn.results.toList st' = some r -> Q st'.h st'.n r -> a'.defers = [] /\ ∃ v, (results fn a'.tmps).run P w' = .ok v w' /\ ∃ v_1 h' n' r ρ' ok', Ending.returned v = .returned v_1 /\ Q h' n' r /\ n <= n' /\ HRel B W0 ρ' ok' h' n' w' /\ V B ρ' ok' w' r v_1 /\ Ext (fun i => n <= i) ρ ρ' ok ok' w w' := by
  intro r hr hq;obtain ⟨z, h1, h2⟩ := results_sound R' hr;exact ⟨R'.defers, z, h1, z, _, _, r, ρ', ok', rfl, hq, hn, R'.heap, h2, x⟩
 cases e with
 | normal => obtain ⟨r, hr, hq⟩ := hq; exact fin r hr hq
 | ret => obtain ⟨r, hr, hq⟩ := hq; exact fin r hr hq
 | exit id => exact hq.elim
 | goto l => exact hq.elim
 | panic c => exact hq.elim
 | outgrown => exact hq.elim
theorem C_inlineY {f : FuncId} {fn : Func} {c : Code} {args : List AV} {r : AV} {news : List HE} (M : List (Nat × List Nat)) (ks : List Nat) (keep : List Nat) (hf : P.funcs[f]? = some fn) (hc : Callable P f) (hb : fn.body = some c) (hok : codeOkY P M fn.ntmps ks c = true) (hl : Nat.ble args.length fn.ntmps = true)
  (hnd : keep.Nodup) (hargs : args.all canonV = true) (hres : resV r = true) (hpn : plainNews news = true)
  (hw : wpY P M ks c (endY P fn.results.toList (Ends keep r news) ⟨⟩) ⟨⟩ ⟨⟩ ⟨none, none⟩ ⟨initT args, fun _ => none, 0⟩) : C P f args r news :=
 C_of (S := Sub) (fun h hv => Sub.v h hv) keep hnd hargs hres hpn (CS_inlineY (typesOk P) M ks hf hc hb hok (Nat.le_of_ble_eq_true hl) hw)
end
end Go.Proofs.YtadmfokicjjglaaGreatDoor.E
