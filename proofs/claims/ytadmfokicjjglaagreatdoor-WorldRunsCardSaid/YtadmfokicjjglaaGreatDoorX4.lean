/- X4: EngR: operations whose order is open, of which one reads, or writes, apart from what the other writes: marks behind a region say that they are apart. EngS: regions whose order is open, with marks behind them; functions entered by them. EngU: loops that count nowhere. EngV: one region of a function, done by a lemma of one's own. EngRg: as EngRn, for functions whose regions bear marks; facts on names, all at once. (Used where a claim is made shorter: mini.py.) -/
import Derived.Test.YtadmfokicjjglaaGreatDoorEngQ
import Derived.Test.YtadmfokicjjglaaGreatDoorX3
namespace Go.Proofs.YtadmfokicjjglaaGreatDoor.E
open Go.RowKit
set_option linter.unusedSimpArgs false
set_option linter.unusedVariables false
section
variable {P : Program}
theorem runI_end {ops : Array Oper} {base : Nat} {Q : St -> Prop} : ∀ (ks : List Nat) (st : St), runI P ops base ks Q st ->
  ∃ st', Q st' /\ ∀ x, (∀ k, k ∈ ks -> ∀ o, ops[k]? = some o -> o.dst ≠ some x) -> st'.t x = st.t x
 | [], st, h => ⟨st, h, fun _ _ => rfl⟩
 | k :: ks, st, h => by
  simp only [runI] at h;split at h
  ·obtain ⟨st', h1, h3⟩ := runI_end ks st h;exact ⟨st', h1, fun x hx => h3 x fun k hk => hx k (by simp [hk])⟩
  ·rename_i o ho
   have put : ∀ {h' : Heap} {r : AV} {x : Nat}, o.dst ≠ some x -> (St.put ⟨st.t, h', st.n⟩ o.dst r).t x = st.t x := by
    intro h' r x hx;cases hd : o.dst with
    | none => rfl
    | some d =>
     show upd st.t d r x = st.t x;exact upd_ne _ _ (by intro e; subst e; exact hx hd)
   split at h
   ·obtain ⟨h', r, -, hk⟩ := step_ef h;obtain ⟨st', h1, h3⟩ := runI_end ks _ hk;refine ⟨st', h1, fun x hx => ?_⟩;rw [h3 x fun k hk => hx k (by simp [hk])];exact put (hx k (by simp) o ho)
   ·obtain ⟨st', h1, h3⟩ := runI_end ks _ h;refine ⟨st', h1, fun x hx => ?_⟩;rw [h3 x fun k hk => hx k (by simp [hk])];exact put (hx k (by simp) o ho)
def touch (op : Op) (t : Nat -> AV) (i : Nat) : Prop :=
 match op with
 | .load _ x => ∃ s r o, evA t x = .ptr i s r o
 | .store _ x _ => ∃ s r o, evA t x = .ptr i s r o
 | .indexAddr _ x _ => ∃ o n, evA t x = .own i o n
 | .slice _ x _ _ mx => mx = none /\ ∃ o n, evA t x = .own i o n
 | .call ⟨.builtin .append, args, _⟩ => ∃ x, x ∈ args.toList /\ ∃ o n, evA t x = .own i o n
 | .call ⟨.value g, args, _⟩ => ¬ ∀ f caps, fnOf (evA t g) = some (f, caps) -> (args.toList.map (evA t) ++ caps).all plainV = true
 | _ => False
def isCall : Op -> Bool
 | .call ⟨.value _, _, _⟩ => true
 | _ => false
theorem storeA_ptr {h : Heap} {t : TypeId} {x v : AV} {h' : Heap} (e : storeA P h t x v = some h') : ∃ i s r o, x = .ptr i s r o := by
 unfold storeA at e;split at e
 ·cases e
 ·split at e
  ·exact ⟨_, _, _, _, rfl⟩
  ·cases e
theorem storeA_local {h g : Heap} {t : TypeId} {i s r o : Nat} {v : AV} {h' : Heap} (e : storeA P h t (.ptr i s r o) v = some h') (hg : g i = h i) :
  (∃ e0, h i = some e0) /\ ∃ en, h' = upd h i (some en) /\ storeA P g t (.ptr i s r o) v = some (upd g i (some en)) := by
 unfold storeA at e ⊢;cases hti : tiOf P t with
 | none => rw [hti] at e; cases e
 | some ti =>
  simp only [hti, hg] at e ⊢;cases hen : h i with
  | none => rw [hen] at e; cases e
  | some en =>
   simp only [hen] at e ⊢;split at e
   ·rename_i hs;rw [if_pos hs];cases hrow : en.rows[r]? with
    | none => rw [hrow] at e; cases e
    | some row =>
     simp only [hrow] at e ⊢;split at e
     ·rename_i hc;rw [if_pos hc];cases e;exact ⟨⟨_, rfl⟩, _, rfl, rfl⟩
     ·cases e
   ·cases e
theorem loadA_local {h g : Heap} {t : TypeId} {x : AV} (hg : ∀ i s r o, x = .ptr i s r o -> g i = h i) : loadA P g t x = loadA P h t x := by
 unfold loadA;split
 ·rfl
 ·cases x with
  | ptr i s r o => simp only [hg i s r o rfl]
  | _ => rfl
theorem indexAddrA_local {h g : Heap} {t : TypeId} {x ix : AV} (hg : ∀ i o n, x = .own i o n -> g i = h i) : indexAddrA P g t x ix = indexAddrA P h t x ix := by
 cases x with
 | own i o n =>
  unfold indexAddrA;simp only [hg i o n rfl]
 | _ => rfl
theorem sliceA_local {h g : Heap} {sz : Nat} {x : AV} {lo hi mx : Option AV} (hg : ∀ i o n, mx = none -> x = .own i o n -> g i = h i) : sliceA g sz x lo hi mx = sliceA h sz x lo hi mx := by
 cases x with
 | own i o n =>
  unfold sliceA;cases mx with
  | none => simp only [hg i o n rfl rfl]
  | some m => rfl
 | _ => rfl
theorem srcRows_local {h g : Heap} {s : Nat} {y : AV} (hg : ∀ i o n, y = .own i o n -> g i = h i) : srcRows g s y = srcRows h s y := by
 cases y with
 | own i o n =>
  unfold srcRows;simp only [hg i o n rfl]
 | «at» v => cases v <;> rfl
 | _ => rfl
theorem leafV_plain2 {g h : Heap} {a : AV} (hp : plainLeaf a = true) : leafV g a = leafV h a := by
 cases a <;> first | rfl | (simp [plainLeaf] at hp; done) | skip
 rename_i f l;cases l with
 | nil => rfl
 | cons x l => simp [plainLeaf] at hp
theorem mapM_same2 {α β : Type} {f g : α -> Option β} : ∀ {l : List α}, (∀ x, x ∈ l -> f x = g x) -> l.mapM f = l.mapM g
 | [], _ => rfl
 | x :: l, h => by rw [List.mapM_cons, List.mapM_cons, h x (by simp), mapM_same2 fun y hy => h y (by simp [hy])]
theorem viewV_plain2 {g h : Heap} {a : AV} (hp : plainV a = true) : viewV g a = viewV h a := by
 cases a with
 | agg l =>
  show (l.mapM (leafV g)).map AV.agg = (l.mapM (leafV h)).map AV.agg;rw [mapM_same2 fun c hc => leafV_plain2 (List.all_eq_true.1 hp c hc)]
 | und => exact leafV_plain2 (g := g) (h := h) (a := .und) hp
 | nilv => exact leafV_plain2 (g := g) (h := h) (a := .nilv) hp
 | nn => exact leafV_plain2 (g := g) (h := h) (a := .nn) hp
 | «at» v => exact leafV_plain2 (g := g) (h := h) (a := .at v) hp
 | nl => exact leafV_plain2 (g := g) (h := h) (a := .nl) hp
 | lst fr s rows => exact leafV_plain2 (g := g) (h := h) (a := .lst fr s rows) hp
 | rp l => exact leafV_plain2 (g := g) (h := h) (a := .rp l) hp
 | own i o n => exact leafV_plain2 (g := g) (h := h) (a := .own i o n) hp
 | ptr i s r o => exact leafV_plain2 (g := g) (h := h) (a := .ptr i s r o) hp
 | tup l => exact leafV_plain2 (g := g) (h := h) (a := .tup l) hp
 | fn f l => exact leafV_plain2 (g := g) (h := h) (a := .fn f l) hp
 | err => exact leafV_plain2 (g := g) (h := h) (a := .err) hp
theorem Rd.local {t : Nat -> AV} {h g : Heap} {id : Nat} {op : Op} {r : AV} {news : List HE} (hs : sort op ≠ 2) (hg : ∀ i, touch op t i -> g i = h i) (hr : Rd P id op t h r news) : Rd P id op t g r news := by
 cases op with
 | alloc e => exact hr
 | box e x => exact hr
 | buildSlice a b c => exact hr
 | makeSlice a b c => exact hr
 | load a x =>
  refine ⟨Eq.trans ?_ hr.1, hr.2⟩;exact loadA_local fun i s r o e => hg i ⟨s, r, o, e⟩
 | indexAddr a x y =>
  refine ⟨Eq.trans ?_ hr.1, hr.2⟩;exact indexAddrA_local fun i o n e => hg i ⟨o, n, e⟩
 | slice a x b c d =>
  refine ⟨Eq.trans ?_ hr.1, hr.2⟩;simp only [valA];split
  ·cases tiOf P (by assumption) with
   | none => rfl
   | some ti =>
    simp only [Option.bind_some];refine sliceA_local fun i o n e e2 => hg i ⟨?_, o, n, e2⟩
    cases d with
    | none => rfl
    | some d => cases e
  ·rfl
  ·rfl
 | call c =>
  obtain ⟨callee, args, tys⟩ := c;cases callee with
  | value q =>
   obtain ⟨f, caps, r0, args', a0, a1, a2, a3, a4⟩ := hr;refine ⟨f, caps, r0, args', a0, ?_, a2, a3, a4⟩;by_cases hp : ∀ f caps, fnOf (evA t q) = some (f, caps) -> (args.toList.map (evA t) ++ caps).all plainV = true
   ·rw [<- a1];exact mapM_same2 fun c hc => viewV_plain2 (List.all_eq_true.1 (hp f caps a0) c hc)
   ·have : g = h := funext fun i => hg i hp
    rw [this];exact a1
  | invoke r m => simp [sort] at hs
  | builtin b => cases b <;> first | exact hr | (simp [sort] at hs; done)
 | makeFunc f a b => cases f <;> exact hr
 | binOp a b x y c => exact ⟨(valA_bin rfl rfl).trans hr.1, hr.2⟩
 | _ => first | exact hr | (simp [sort] at hs; done)
theorem Ef.local {id : Nat} {op : Op} {t : Nat -> AV} {h h' : Heap} {r : AV} (he : Ef P id op t h h' r) :
  ∃ W : Nat -> Prop, (∀ i, W i -> (touch op t i /\ sort op = 2) \/ (id <= i /\ i < id + 4)) /\ (∀ i, ¬ W i -> h' i = h i) /\
   ∀ g, (∀ i, touch op t i -> g i = h i) -> ∃ g', Ef P id op t g g' r /\ (∀ i, W i -> g' i = h' i) /\ ∀ i, ¬ W i -> g' i = g i := by
 by_cases hs : sort op = 2
 ·have he0 := he;unfold Ef at he;rw [if_pos hs] at he;split at he
  ·rename_i ty x y;obtain ⟨h1, rfl⟩ := he;obtain ⟨i, s, r, o, hp⟩ := storeA_ptr h1;rw [hp] at h1;obtain ⟨-, en0, q1, -⟩ := storeA_local h1 rfl;refine ⟨fun j => j = i, fun j hj => .inl ⟨⟨s, r, o, by rw [hj]; exact hp⟩, hs⟩, fun j hj => by rw [q1]; exact upd_ne _ _ hj, fun g hg => ?_⟩;obtain ⟨-, en, e1, e2⟩ := storeA_local h1 (g := g) (hg i ⟨s, r, o, hp⟩);refine ⟨upd g i (some en), ?_, fun j hj => ?_, fun j hj => upd_ne _ _ hj⟩
   ·unfold Ef;rw [if_pos hs];exact ⟨by rw [hp]; exact e2, rfl⟩
   ·rw [e1]; subst hj; simp [upd]
  ·rename_i args tys;obtain ⟨x, y, ty, ty', h1, h2, hb, h3⟩ := he;have hx : x ∈ args.toList := by rw [h1]; simp
   have hy : y ∈ args.toList := by rw [h1]; simp
   unfold appendA at h3;split at h3
   ·rename_i el htk;cases hti : tiOf P el with
    | none => rw [hti] at h3; cases h3
    | some ti =>
     rw [hti] at h3;simp only [Option.bind_some] at h3;split at h3
     ·cases h3
     rename_i hc;cases hsr : srcRows h ti.size (evA t y) with
     | none => rw [hsr] at h3; cases h3
     | some news =>
      rw [hsr] at h3;simp only [Option.bind_some] at h3;split at h3
      ·cases h3
      rename_i hc2
      have src : ∀ g, (∀ i, touch (.call ⟨.builtin .append, args, tys⟩) t i -> g i = h i) -> srcRows g ti.size (evA t y) = some news := by
       intro g hg;rw [<- hsr];exact srcRows_local fun i o n e => hg i ⟨y, hy, o, n, e⟩
      split at h3
      ·rename_i hxe;cases h3;refine ⟨fun j => j = id, fun j hj => .inr (by omega), fun j hj => upd_ne _ _ hj, fun g hg => ?_⟩;refine ⟨upd g id (some ⟨el, ti.size, news⟩), ?_, fun j hj => by subst hj; simp [upd], fun j hj => upd_ne _ _ hj⟩;unfold Ef;rw [if_pos hs];refine ⟨x, y, ty, ty', h1, h2, hb, ?_⟩;unfold appendA;simp only [htk, hti, Option.bind_some, if_neg hc, src g hg, if_neg hc2, hxe]
      ·rename_i i n hxe;cases hen : h i with
       | none => rw [hen] at h3; cases h3
       | some e =>
        rw [hen] at h3;simp only at h3;split at h3
        ·rename_i hcc;cases h3;refine ⟨fun j => j = i \/ j = id, fun j hj => hj.elim (fun e => .inl ⟨⟨x, hx, 0, n, by rw [e]; exact hxe⟩, hs⟩) fun e => .inr (by omega), fun j hj => ?_, fun g hg => ?_⟩
         ·rw [upd_ne _ _ (fun e => hj (.inr e)), upd_ne _ _ (fun e => hj (.inl e))]
         ·have hgi : g i = some e := by rw [hg i ⟨x, hx, _, _, hxe⟩, hen]
          refine ⟨upd (upd g i none) id (some ⟨el, ti.size, e.rows.take n ++ news⟩), ?_, fun j hj => ?_, fun j hj => ?_⟩
          ·unfold Ef;rw [if_pos hs];refine ⟨x, y, ty, ty', h1, h2, hb, ?_⟩;unfold appendA;simp only [htk, hti, Option.bind_some, if_neg hc, src g hg, if_neg hc2, hxe, hgi, if_pos hcc]
          ·rcases hj with rfl | rfl <;> simp [upd]
          ·rw [upd_ne _ _ (fun e => hj (.inr e)), upd_ne _ _ (fun e => hj (.inl e))]
        ·cases h3
      ·cases h3
   ·cases h3
  ·exact he.elim
 ·unfold Ef at he;rw [if_neg hs] at he;obtain ⟨news, h1, h2, rfl⟩ := he;refine ⟨fun i => id <= i /\ i < id + news.length, fun i hi => .inr (by omega), fun i hi => by rw [updL_get, if_neg hi], fun g hg => ?_⟩;refine ⟨updL g id news, ?_, fun i hi => ?_, fun i hi => by rw [updL_get, if_neg hi]⟩
  ·unfold Ef;rw [if_neg hs];exact ⟨news, h1.local hs hg, h2, rfl⟩
  ·rw [updL_get, updL_get, if_pos hi, if_pos hi]
theorem Ef.there {id : Nat} {op : Op} {t : Nat -> AV} {h h' : Heap} {r : AV} (he : Ef P id op t h h' r) (hc : isCall op = false) {i : Nat} (ht : touch op t i) : ∃ e, h i = some e := by
 cases op with
 | load a x =>
  obtain ⟨s, q, o, hp⟩ := ht;unfold Ef at he;rw [if_neg (by simp [sort])] at he;obtain ⟨news, h1, -, -⟩ := he;have h1 := h1.1;simp only [valA, hp, loadA] at h1;split at h1
  ·cases h1
  ·cases hh : h i with
   | none => rw [hh] at h1; cases h1
   | some e => exact ⟨e, rfl⟩
 | store a x y =>
  obtain ⟨s, q, o, hp⟩ := ht;unfold Ef at he;rw [if_pos (by simp [sort])] at he;have h1 := he.1;rw [hp] at h1;exact (storeA_local h1 rfl).1
 | indexAddr a x y =>
  obtain ⟨o, n, hp⟩ := ht;unfold Ef at he;rw [if_neg (by simp [sort])] at he;obtain ⟨news, h1, -, -⟩ := he;have h1 := h1.1;simp only [valA, hp, indexAddrA] at h1;cases hh : h i with
  | none =>
   rw [hh] at h1;exfalso;split at h1
   ·cases h1
   ·split at h1
    ·split at h1 <;> cases h1
    ·split at h1 <;> cases h1
    ·cases h1
  | some e => exact ⟨e, rfl⟩
 | slice a x lo hi mx =>
  obtain ⟨rfl, o, n, hp⟩ := ht;unfold Ef at he;rw [if_neg (by simp [sort])] at he;obtain ⟨news, h1, -, -⟩ := he;have h1 := h1.1;simp only [valA, hp, sliceA, Option.map_none] at h1;cases hh : h i with
  | none =>
   rw [hh] at h1;exfalso;split at h1
   ·cases hti : tiOf P (by assumption) with
    | none => rw [hti] at h1; cases h1
    | some ti =>
     rw [hti] at h1;simp only [Option.bind_some] at h1;split at h1
     ·rename_i h9; cases h9
     ·cases h1
   ·simp [sliceS] at h1
   ·cases h1
  | some e => exact ⟨e, rfl⟩
 | call c =>
  obtain ⟨callee, args, tys⟩ := c;cases callee with
  | value g => simp [isCall] at hc
  | invoke q m => exact ht.elim
  | builtin b =>
   cases b with
   | append =>
    obtain ⟨z, hz, o, n, hp⟩ := ht;unfold Ef at he;rw [if_pos (by simp [sort])] at he;obtain ⟨x, y, ty, ty', h1, h2, hb, h3⟩ := he;unfold appendA at h3;split at h3
    ·rename_i el htk;cases hti : tiOf P el with
     | none => rw [hti] at h3; cases h3
     | some ti =>
      rw [hti] at h3;simp only [Option.bind_some] at h3;split at h3
      ·cases h3
      cases hsr : srcRows h ti.size (evA t y) with
      | none => rw [hsr] at h3; cases h3
      | some news =>
       rw [hsr] at h3;simp only [Option.bind_some] at h3;rw [h1] at hz;simp at hz;rcases hz with rfl | rfl
       ·rw [hp] at h3;split at h3
        ·cases h3
        ·split at h3
         ·rename_i hh; cases hh
         ·rename_i hh;cases hh;cases hh : h i with
          | none => rw [hh] at h3; cases h3
          | some e => exact ⟨e, rfl⟩
         ·cases h3
       ·rw [hp] at hsr;unfold srcRows at hsr;cases hh : h i with
        | none => simp only [hh] at hsr; cases hsr
        | some e => exact ⟨e, rfl⟩
    ·cases h3
   | _ => exact ht.elim
 | _ => exact ht.elim
theorem touch_congr {op : Op} {t t' : Nat -> AV} (he : ∀ x, x ∈ op.operands -> evA t x = evA t' x) {i : Nat} (h : touch op t i) : touch op t' i := by
 cases op with
 | load a x => obtain ⟨s, r, o, hp⟩ := h; exact ⟨s, r, o, by rw [<- he x (by simp [Op.operands])]; exact hp⟩
 | store a x y => obtain ⟨s, r, o, hp⟩ := h; exact ⟨s, r, o, by rw [<- he x (by simp [Op.operands])]; exact hp⟩
 | indexAddr a x y => obtain ⟨o, n, hp⟩ := h; exact ⟨o, n, by rw [<- he x (by simp [Op.operands])]; exact hp⟩
 | slice a x lo hi mx => obtain ⟨hm, o, n, hp⟩ := h; exact ⟨hm, o, n, by rw [<- he x (by simp [Op.operands])]; exact hp⟩
 | call c =>
  obtain ⟨callee, args, tys⟩ := c;cases callee with
  | value g =>
   intro hn;refine h fun f caps hf => ?_
   have e1 : evA t g = evA t' g := he g (by simp [Op.operands, Call.operands]);have e2 : args.toList.map (evA t) = args.toList.map (evA t') := List.map_congr_left fun x hx => he x (by simp [Op.operands, Call.operands]; exact Or.inr (by simpa using hx))
   rw [e2];exact hn f caps (by rw [<- e1]; exact hf)
  | invoke q m => exact h.elim
  | builtin b =>
   cases b with
   | append =>
    obtain ⟨z, hz, o, n, hp⟩ := h;exact ⟨z, hz, o, n, by rw [<- he z (by simp only [Op.operands, Call.operands]; simpa using hz)]; exact hp⟩
   | _ => exact h.elim
 | _ => exact h.elim
def gateP (oy ox : Op) (t : Nat -> AV) : Prop :=
 (∀ i, touch oy t i -> ¬ touch ox t i) /\ (isCall oy = true -> ∀ i, ¬ touch oy t i) /\ (isCall ox = true -> ∀ i, ¬ touch ox t i)
structure Gate (ops : Array Oper) (oy ox : Oper) (Q : St -> Prop) (ks : List Nat) : Prop where
 kept : ∀ k, k ∈ ks -> ∀ o, ops[k]? = some o -> ∀ d, o.dst = some d -> Operand.tmp d ∉ oy.op.operands /\ Operand.tmp d ∉ ox.op.operands
 fact : ∀ st', Q st' -> gateP oy.op ox.op st'.t
theorem Gate.now {ops : Array Oper} {base : Nat} {oy ox : Oper} {Q : St -> Prop} {ks : List Nat} (G : Gate ops oy ox Q ks) {s : St} (h : runI P ops base ks Q s) : gateP oy.op ox.op s.t := by
 obtain ⟨st', q1, q2⟩ := runI_end _ s h
 have hy : ∀ x, x ∈ oy.op.operands -> evA s.t x = evA st'.t x := fun x hx => by
  cases x with
  | tmp k => exact (q2 k fun k' hk' o' ho' e => (G.kept k' hk' o' ho' k e).1 hx).symm
  | _ => rfl
 have hx : ∀ x, x ∈ ox.op.operands -> evA s.t x = evA st'.t x := fun x hx => by
  cases x with
  | tmp k => exact (q2 k fun k' hk' o' ho' e => (G.kept k' hk' o' ho' k e).2 hx).symm
  | _ => rfl
 obtain ⟨g1, g2, g3⟩ := G.fact st' q1;exact ⟨fun i a b => g1 i (touch_congr hy a) (touch_congr hx b), fun c i a => g2 c i (touch_congr hy a), fun c i a => g3 c i (touch_congr hx a)⟩
def PreOk (ops : Array Oper) (x : Nat) (ox : Oper) (Q : St -> Prop) (post : List Nat) : List Nat -> Prop
 | [] => True
 | y :: pre => (∃ oy, Free ops y x oy ox /\ (sort oy.op = 0 \/ (sort oy.op = 1 /\ sort ox.op = 1) \/ Gate ops oy ox Q (y :: pre ++ x :: post))) /\ PreOk ops x ox Q post pre
theorem Alike.symm_ev {ops : Array Oper} {o : Oper} {t t' : Nat -> AV} (h : Alike ops o t t') {x : Operand} (hx : x ∈ o.op.operands) : evA t' x = evA t x := (h.ev hx).symm
theorem frontX {ops : Array Oper} {base x : Nat} {ox : Oper} (gx : ops[x]? = some ox) {Q : St -> Prop} {post : List Nat} :
  ∀ (pre : List Nat) (s : St), PreOk ops x ox Q post pre -> wantA ops ox s.t = true -> (∀ j, j < 4 -> s.h (base + 4 * x + j) = none) ->
   (∀ i, touch ox.op s.t i -> ∀ y, y ∈ pre -> ¬ (base + 4 * y <= i /\ i < base + 4 * y + 4)) -> runI P ops base (pre ++ x :: post) Q s ->
   ∃ rx t' h', Alike ops ox s.t t' /\ Ef P (base + 4 * x) ox.op t' s.h h' rx /\ runI P ops base (pre ++ post) Q (St.put ⟨s.t, h', s.n⟩ ox.dst rx)
 | [], s, _, hw, _, _, h => by
  simp only [List.nil_append, runI, gx] at h;rw [if_pos hw] at h;obtain ⟨h', r, he, hk⟩ := step_ef h;exact ⟨r, s.t, h', Alike.refl _ _ _, he, hk⟩
 | y :: pre, s, hf, hwx, hn, T1, h => by
  obtain ⟨⟨oy, f, hs⟩, hf'⟩ := hf;have h0 := h;simp only [List.cons_append, runI, f.gy] at h;have gate : Gate ops oy ox Q (y :: pre ++ x :: post) -> gateP oy.op ox.op s.t := fun G => G.now h0
  split at h
  ·rename_i hw;obtain ⟨h1, r1, he, hk⟩ := step_ef h;have ha : Alike ops ox s.t (St.put ⟨s.t, h1, s.n⟩ oy.dst r1).t := Alike.put f.d1;obtain ⟨Wy, wy1, wy2, wy3⟩ := he.local;have hdis : base + 4 * x + 4 <= base + 4 * y \/ base + 4 * y + 4 <= base + 4 * x := by have := f.ne; omega
   have hyx : ∀ i, Wy i -> base + 4 * x <= i -> i < base + 4 * x + 4 -> False := by
    intro i hi h1 h2
    have hni : s.h i = none := by
     have := hn (i - (base + 4 * x)) (by omega);rwa [show base + 4 * x + (i - (base + 4 * x)) = i by omega] at this
    rcases wy1 i hi with ⟨ht, hs2⟩ | hr
    ·obtain ⟨e, hh⟩ := he.there (by
      cases hc : isCall oy.op with
      | false => rfl
      | true =>
       exfalso;cases hop : oy.op <;> rw [hop] at hc hs2 <;> simp [isCall] at hc
       rename_i c;obtain ⟨callee, args, tys⟩ := c
       cases callee <;> simp [sort] at hs2 <;> simp at hc) ht
     rw [hh] at hni; cases hni
    ·omega
   have key := frontX gx pre _ hf' (by rw [ha.want]; exact hwx) (fun j hj => by
     rw [put_h, wy2 _ (fun hc => hyx _ hc (by omega) (by omega))]; exact hn j hj) (fun i hi y hy => T1 i (touch_congr (fun z hz => ha.symm_ev hz) hi) y (by simp [hy])) hk
   obtain ⟨rx, t', h2, g1, g2, g3⟩ := key;simp only [put_h, put_n] at g2 g3;have hat : Alike ops ox s.t t' := ha.trans g1;have g2' : Ef P (base + 4 * x) ox.op s.t h1 h2 rx := g2.congr fun o ho => (hat.ev ho).symm
   obtain ⟨Wx, wx1, wx2, wx3⟩ := g2'.local;have tx : ∀ i, touch ox.op s.t i -> ¬ (base + 4 * y <= i /\ i < base + 4 * y + 4) := fun i hi => T1 i hi y (by simp)
   have ayx : ∀ i, touch ox.op s.t i -> ¬ Wy i := by
    intro i hi hW;rcases wy1 i hW with ⟨ht, hs2⟩ | hr
    ·rcases hs with e | ⟨e, -⟩ | G
     ·rw [e] at hs2; cases hs2
     ·rw [e] at hs2; cases hs2
     ·exact (gate G).1 i ht hi
    ·exact tx i hi hr
   obtain ⟨hx, e1, e2, e3⟩ := wx3 s.h fun i hi => (wy2 i (ayx i hi)).symm
   have cxy : ∀ i, Wx i -> ¬ Wy i := by
    intro i hi hW;rcases wx1 i hi with ⟨ht, -⟩ | hr
    ·exact ayx i ht hW
    ·exact hyx i hW hr.1 hr.2
   have ey : ∃ h2', Ef P (base + 4 * y) oy.op s.t hx h2' r1 /\ (∀ i, Wy i -> h2' i = h1 i) /\ ∀ i, ¬ Wy i -> h2' i = hx i := by
    have byl : (∀ i, touch oy.op s.t i -> ¬ Wx i) -> ∃ h2', Ef P (base + 4 * y) oy.op s.t hx h2' r1 /\ (∀ i, Wy i -> h2' i = h1 i) /\ ∀ i, ¬ Wy i -> h2' i = hx i := by
     intro hb;exact wy3 hx fun i hi => e3 i (hb i hi)
    rcases hs with hs | ⟨hs, hs'⟩ | G
    ·refine byl fun i hi => ?_
     exfalso;revert hi;cases hop : oy.op with
     | call c =>
      obtain ⟨callee, args, tys⟩ := c;rw [hop] at hs;cases callee with
      | value g => simp [sort] at hs
      | invoke q m => exact fun h => h
      | builtin b => cases b <;> first | exact fun h => h | (simp [sort] at hs; done)
     | load a b => rw [hop] at hs; simp [sort] at hs
     | store a b c => rw [hop] at hs; simp [sort] at hs
     | indexAddr a b c => rw [hop] at hs; simp [sort] at hs
     | slice a b c d e => rw [hop] at hs; simp [sort] at hs
     | _ => exact fun h => h
    ·-- both read or make
     have hle : HLe s.h hx := by
      intro i e he;by_cases hc : Wx i
      ·rcases wx1 i hc with ⟨-, h9⟩ | hr
       ·rw [hs'] at h9; cases h9
       ·have := hn (i - (base + 4 * x)) (by omega);rw [show base + 4 * x + (i - (base + 4 * x)) = i by omega] at this;rw [this] at he; cases he
      ·rw [e3 i hc]; exact he
     have he' := he;unfold Ef at he';rw [if_neg (by rw [hs]; simp)] at he';obtain ⟨ny, k1, k2, hh1⟩ := he';refine ⟨updL hx (base + 4 * y) ny, ?_, fun i hi => ?_, fun i hi => ?_⟩
     ·unfold Ef;rw [if_neg (by rw [hs]; simp)];exact ⟨ny, k1.mono hle (by rw [hs]; simp), k2, rfl⟩
     ·by_cases hc : base + 4 * y <= i /\ i < base + 4 * y + ny.length
      ·rw [hh1, updL_get, updL_get, if_pos hc, if_pos hc]
      ·rw [hh1, updL_get, updL_get, if_neg hc, if_neg hc];exact e3 i fun hx => cxy i hx hi
     ·by_cases hc : base + 4 * y <= i /\ i < base + 4 * y + ny.length
      ·rw [updL_get, if_pos hc];have q := wy2 i hi;rw [hh1, updL_get, if_pos hc] at q;rw [q];refine (e3 i fun hx => ?_).symm;rcases wx1 i hx with ⟨-, h9⟩ | hr
       ·rw [hs'] at h9; cases h9
       ·omega
      ·rw [updL_get, if_neg hc]
    ·refine byl fun i hi hW => ?_
     rcases wx1 i hW with ⟨ht, -⟩ | hr
     ·exact (gate G).1 i hi ht
     ·cases hc : isCall oy.op with
      | true => exact (gate G).2.1 hc i hi
      | false =>
       obtain ⟨e, hh⟩ := he.there hc hi;have := hn (i - (base + 4 * x)) (by omega);rw [show base + 4 * x + (i - (base + 4 * x)) = i by omega] at this;rw [this] at hh; cases hh
   obtain ⟨h2', b1, b2, b3⟩ := ey
   have heq : h2' = h2 := by
    funext i
    by_cases hc : Wy i
    ·rw [b2 i hc, wx2 i fun hx => cxy i hx hc]
    ·rw [b3 i hc];by_cases hx' : Wx i
     ·exact e2 i hx'
     ·rw [e3 i hx', wx2 i hx', wy2 i hc]
   subst heq;refine ⟨rx, s.t, hx, Alike.refl _ _ _, e1, ?_⟩;exact cons_one (P := P) (base := base) f hw (h1 := h1) b1 g3
  ·rename_i hw;have ha : Alike ops ox s.t (St.put ⟨s.t, s.h, s.n⟩ oy.dst .und).t := Alike.put f.d1;obtain ⟨rx, t', h', g1, g2, g3⟩ := frontX gx pre _ hf' (by rw [ha.want]; exact hwx) (by simpa only [put_h] using hn) (fun i hi y hy => T1 i (touch_congr (fun z hz => ha.symm_ev hz) hi) y (by simp [hy])) h;simp only [put_h, put_n] at g2 g3;refine ⟨rx, t', h', ha.trans g1, g2, ?_⟩;exact cons_skip (P := P) (base := base) f (hx := h') (h1 := s.h) hw g3
end
end Go.Proofs.YtadmfokicjjglaaGreatDoor.E
namespace Go.Proofs.YtadmfokicjjglaaGreatDoor.E
open Go.RowKit
set_option linter.unusedSimpArgs false
set_option linter.unusedVariables false
section
variable {P : Program}
def slotsOf : Op -> List Operand
 | .load _ x => [x]
 | .store _ x _ => [x]
 | .indexAddr _ x _ => [x]
 | .slice _ x _ _ _ => [x]
 | .call ⟨.builtin .append, args, _⟩ => args.toList
 | _ => []
def markOk (ks : List Nat) (x z : Operand) : Bool := match x, z with
 | .tmp a, .tmp b => decide (b < 1000) && decide (a * 1000 + b < 1000000) && ks.contains (a * 1000 + b)
 | _, _ => true
def argOk (ks : List Nat) (x : Operand) : Bool := match x with
 | .tmp a => decide (a < 1000000) && ks.contains (1000000 + a)
 | _ => true
def callOk (ks : List Nat) (op : Op) : Bool := match op with
 | .call ⟨.value (.func _), args, _⟩ => args.toList.all (argOk ks)
 | .call ⟨.value _, _, _⟩ => false
 | _ => true
def marksOk (ks : List Nat) (oy ox : Op) : Bool := (slotsOf oy).all (fun x => (slotsOf ox).all (markOk ks x)) && callOk ks oy && callOk ks ox
theorem touch_slot {op : Op} {t : Nat -> AV} {i : Nat} (hc : isCall op = false) (h : touch op t i) : ∃ x, x ∈ slotsOf op /\ rowNo (evA t x) = some i := by
 cases op with
 | load a x => obtain ⟨s, r, o, hp⟩ := h; exact ⟨x, by simp [slotsOf], by rw [hp]; rfl⟩
 | store a x y => obtain ⟨s, r, o, hp⟩ := h; exact ⟨x, by simp [slotsOf], by rw [hp]; rfl⟩
 | indexAddr a x y => obtain ⟨o, n, hp⟩ := h; exact ⟨x, by simp [slotsOf], by rw [hp]; rfl⟩
 | slice a x lo hi mx => obtain ⟨-, o, n, hp⟩ := h; exact ⟨x, by simp [slotsOf], by rw [hp]; rfl⟩
 | call c =>
  obtain ⟨callee, args, tys⟩ := c;cases callee with
  | value g => simp [isCall] at hc
  | invoke q m => exact h.elim
  | builtin b =>
   cases b with
   | append => obtain ⟨z, hz, o, n, hp⟩ := h; exact ⟨z, hz, by rw [hp]; rfl⟩
   | _ => exact h.elim
 | _ => exact h.elim
theorem rowNo_ofVal (v : Value) : rowNo (ofVal v) = none := by
 unfold ofVal;split <;> rfl
theorem plainLeaf_leafOf (v : Value) : plainLeaf (leafOf v) = true := by
 unfold leafOf;split <;> rfl
theorem plain_ofVal (v : Value) : plainV (ofVal v) = true := by
 unfold ofVal;split
 ·rfl
 ·show ((_ : List AV).all plainLeaf) = true;rw [List.all_map];exact List.all_eq_true.2 fun x _ => plainLeaf_leafOf x
 ·rfl
theorem num_dm (a b : Nat) (h : b < 1000) : (a * 1000 + b) / 1000 = a /\ (a * 1000 + b) % 1000 = b := by omega
theorem num_big (a : Nat) : (¬ 1000000 + a < 1000000) /\ (a < 1000000 -> 1000000 + a < 2000000) /\ 1000000 + a - 1000000 = a := by omega
theorem markOk_apart {ks : List Nat} {st : St} (hk : ∀ k, k ∈ ks -> gateF k st) {x z : Operand} (h : markOk ks x z = true) : ∀ i, rowNo (evA st.t x) = some i -> rowNo (evA st.t z) ≠ some i := by
 intro i hi;cases x with
 | tmp a =>
  cases z with
  | tmp b =>
   simp only [markOk, Bool.and_eq_true, decide_eq_true_eq, List.contains_iff_mem] at h;obtain ⟨⟨h1, h2⟩, h3⟩ := h;have := hk _ h3;unfold gateF at this;rw [if_pos h2] at this;obtain ⟨e1, e2⟩ := num_dm a b h1;rw [e1, e2] at this;exact this i hi
  | const v => rw [evA_const, rowNo_ofVal]; simp
  | func f => simp [evA, rowNo]
  | global g => simp [evA, rowNo]
 | const v => rw [evA_const, rowNo_ofVal] at hi; cases hi
 | func f => simp [evA, rowNo] at hi
 | global g => simp [evA, rowNo] at hi
theorem callOk_plain {ks : List Nat} {st : St} (hk : ∀ k, k ∈ ks -> gateF k st) {op : Op} (h : callOk ks op = true) (hc : isCall op = true) : ∀ i, ¬ touch op st.t i := by
 intro i;cases op with
 | call c =>
  obtain ⟨callee, args, tys⟩ := c;cases callee with
  | value g =>
   cases g with
   | func f =>
    intro hn;refine hn fun f' caps hf => ?_
    simp only [evA, fnOf, Option.some.injEq, Prod.mk.injEq] at hf;obtain ⟨-, rfl⟩ := hf;rw [List.append_nil];simp only [callOk] at h;refine List.all_eq_true.2 fun c hc => ?_
    obtain ⟨x, hx, rfl⟩ := List.mem_map.1 hc;have h1 := List.all_eq_true.1 h x hx;cases x with
    | tmp a =>
     simp only [argOk, Bool.and_eq_true, decide_eq_true_eq, List.contains_iff_mem] at h1;have := hk _ h1.2;unfold gateF at this;rw [if_neg (num_big a).1, if_pos ((num_big a).2.1 h1.1), (num_big a).2.2] at this;exact this
    | const v => exact plain_ofVal v
    | func f => rfl
    | global g => rfl
   | _ => simp [callOk] at h
  | invoke q m => simp [isCall] at hc
  | builtin b => simp [isCall] at hc
 | _ => simp [isCall] at hc
theorem marks_gate {ks : List Nat} {st : St} (hk : ∀ k, k ∈ ks -> gateF k st) {oy ox : Op} (h : marksOk ks oy ox = true) : gateP oy ox st.t := by
 simp only [marksOk, Bool.and_eq_true] at h;obtain ⟨⟨h1, h2⟩, h3⟩ := h;refine ⟨fun i hy hx => ?_, fun hc => callOk_plain hk h2 hc, fun hc => callOk_plain hk h3 hc⟩;cases hcy : isCall oy with
 | true => exact callOk_plain hk h2 hcy i hy
 | false =>
  cases hcx : isCall ox with
  | true => exact callOk_plain hk h3 hcx i hx
  | false =>
   obtain ⟨a, ha, ra⟩ := touch_slot hcy hy;obtain ⟨b, hb, rb⟩ := touch_slot hcx hx;exact markOk_apart hk (List.all_eq_true.1 (List.all_eq_true.1 h1 a ha) b hb) i ra rb
def keptOk (ops : Array Oper) (M : Array (List Nat)) (y x : Nat) (oy ox : Oper) : Bool :=
 (List.range ops.size).all fun k => decide (k < y) || (M.getD x []).contains k || match ops[k]? with
  | none => true
  | some o => match o.dst with
   | none => true
   | some d => !(oy.looksAt ops).contains d && !(ox.looksAt ops).contains d
def pairOkG (ops : Array Oper) (M : Array (List Nat)) (ks : List Nat) (y x : Nat) (oy ox : Oper) : Bool :=
 pairOk (sort oy.op) (sort ox.op) || (marksOk ks oy.op ox.op && keptOk ops M y x oy ox)
def drawOkG (ops : Array Oper) (ks : List Nat) : Bool :=
 let M := closA ops
 (List.range ops.size).all fun x => match ops[x]? with
  | none => false
  | some ox => (ox.after.toList.all fun e => !Region.binds .any e || decide (e.on < x)) &&
   ((M.getD x []).all fun y => ox.after.toList.any fun e => Region.binds .any e && (e.on == y || (M.getD e.on []).contains y)) &&
   ((List.range x).all fun y => (M.getD x []).contains y || match ops[y]? with
    | none => false
    | some oy => oy.apart ops ox && pairOkG ops M ks y x oy ox)
variable {B : Nat} {W0 : World} {nt : Nat}
theorem dst_kept {ops : Array Oper} {o : Oper} {d : Tmp} (h : (o.looksAt ops).contains d = false) : Operand.tmp d ∉ o.op.operands := by
 intro hx
 have : d ∈ o.looksAt ops := by
  unfold Oper.looksAt;exact List.mem_append_left _ (List.mem_filterMap.2 ⟨.tmp d, by simpa using hx, rfl⟩)
 simp at h;exact h this
theorem closed_memG {ops : Array Oper} {ks : List Nat} (hd : drawOkG ops ks = true) {listed : Array Bool} (hcl : ∀ k o, ops[k]? = some o -> listed.getD k true = true -> ∀ e, e ∈ o.after -> Region.binds .any e = true -> listed.getD e.on false = true) :
  ∀ (x : Nat) (ox : Oper), ops[x]? = some ox -> (∀ e, e ∈ ox.after -> Region.binds .any e = true -> listed.getD e.on false = true) -> ∀ y, y ∈ (closA ops).getD x [] -> listed.getD y false = true := by
 intro x
 induction x using Nat.strongRecOn with
 | _ x ih =>
  intro ox hox hre y hy;have hlt : x < ops.size := (Array.getElem?_eq_some_iff.1 hox).1;have h0 := List.all_eq_true.1 hd x (by simpa using hlt);simp only [hox, Bool.and_eq_true] at h0;obtain ⟨⟨h1, h2⟩, -⟩ := h0;obtain ⟨e, he, hc⟩ := List.any_eq_true.1 (List.all_eq_true.1 h2 y hy);simp only [Bool.and_eq_true, Bool.or_eq_true, beq_iff_eq, List.contains_iff_mem] at hc;obtain ⟨hb, hc⟩ := hc;have hel := hre e (by simpa using he) hb;rcases hc with rfl | hc
  ·exact hel
  ·have hon : e.on < x := by
    have := List.all_eq_true.1 h1 e he;simp only [hb, Bool.not_true, Bool.false_or, decide_eq_true_eq] at this;exact this
   obtain ⟨oe, hoe⟩ : ∃ oe, ops[e.on]? = some oe := ⟨ops[e.on]'(by omega), by simp⟩
   have hel' : listed.getD e.on true = true := by
    cases hq : listed[e.on]? with
    | none => simp [hq] at hel
    | some b => simp [hq] at hel ⊢; exact hel
   exact ih e.on hon oe hoe (hcl e.on oe hoe hel') y hc
theorem preOk_of {ops : Array Oper} {x : Nat} {ox : Oper} (gx : ops[x]? = some ox) (hs : sort ox.op ≠ 0) {ks : List Nat} {Q : St -> Prop} (hQk : ∀ st, Q st -> ∀ k, k ∈ ks -> gateF k st) {post : List Nat} :
  ∀ (pre : List Nat), (pre ++ x :: post).Pairwise (· < ·) -> (∀ k, k ∈ pre ++ x :: post -> ((closA ops).getD x []).contains k = false) ->
   (∀ y, y ∈ pre -> ∃ oy, Free ops y x oy ox /\ pairOkG ops (closA ops) ks y x oy ox = true) -> PreOk ops x ox Q post pre
 | [], _, _, _ => trivial
 | y :: pre, hp, hn, hf => by
  refine ⟨?_, preOk_of gx hs hQk pre (List.pairwise_cons.1 hp).2 (fun k hk => hn k (by simp [hk])) (fun y hy => hf y (by simp [hy]))⟩;obtain ⟨oy, f, h⟩ := hf y (by simp);refine ⟨oy, f, ?_⟩;unfold pairOkG at h;simp only [Bool.or_eq_true, Bool.and_eq_true] at h;rcases h with h | ⟨h1, h2⟩
  ·simp only [pairOk, Bool.or_eq_true, Bool.and_eq_true, beq_iff_eq] at h;rcases h with (h | h) | h
   ·exact .inl h
   ·exact absurd h hs
   ·exact .inr (.inl h)
  ·refine .inr (.inr ⟨fun k hk o ho d hd => ?_, fun st' hq => marks_gate (hQk st' hq) h1⟩);have hlt : k < ops.size := (Array.getElem?_eq_some_iff.1 ho).1;have h3 := List.all_eq_true.1 h2 k (by simpa using hlt);simp only [ho, hd, Bool.or_eq_true, Bool.and_eq_true, Bool.not_eq_true', decide_eq_true_eq] at h3;rcases h3 with (h3 | h3) | h3
   ·exfalso;have hpw := List.pairwise_cons.1 (show (y :: (pre ++ x :: post)).Pairwise (· < ·) from hp);rcases List.mem_cons.1 (show k ∈ y :: (pre ++ x :: post) by simpa using hk) with e | e
    ·omega
    ·have := hpw.1 k e;omega
   ·exfalso;have := hn k hk;rw [h3] at this; cases this
   ·exact ⟨dst_kept h3.1, dst_kept h3.2⟩
theorem touch_there {ρ : Nat -> Option Place} {ok : Nat -> Prop} {w : World} {st : St} {a : Act} (R : Rl B W0 ρ ok nt st a w) {op : Op} (hok : opOk op = true) (hc : isCall op = false) {i : Nat} (h : touch op st.t i) : ρ i ≠ none := by
 have ev : ∀ x, okOpd x = true -> V B ρ ok w (evA st.t x) (a.eval x) := fun x hx => ev_sound R hx
 cases op with
 | load _ x => obtain ⟨s, r, o, hp⟩ := h; have := ev x (opd hok (by simp [Op.operands])); rw [hp] at this; exact ptr_there this
 | store _ x y => obtain ⟨s, r, o, hp⟩ := h; have := ev x (opd hok (by simp [Op.operands])); rw [hp] at this; exact ptr_there this
 | indexAddr _ x y => obtain ⟨o, n, hp⟩ := h; have := ev x (opd hok (by simp [Op.operands])); rw [hp] at this; exact own_there this
 | slice _ x lo hi mx => obtain ⟨-, o, n, hp⟩ := h; have := ev x (opd hok (by simp [Op.operands])); rw [hp] at this; exact own_there this
 | call c =>
  obtain ⟨callee, args, tys⟩ := c;cases callee with
  | value g => simp [isCall] at hc
  | invoke q m => exact h.elim
  | builtin b =>
   cases b with
   | append =>
    obtain ⟨z, hz, o, n, hp⟩ := h;have := ev z (opd hok (by simp only [Op.operands, Call.operands]; simpa using hz));rw [hp] at this;exact own_there this
   | _ => exact h.elim
 | _ => exact h.elim
theorem draw_anyG (T : TypesOk P) {ρ0 : Nat -> Option Place} {ok0 : Nat -> Prop} {w0 : World} {n0 : Nat} {ops : Array Oper} {base : Nat} (hb0 : n0 <= base) {ks : List Nat} (hd : drawOkG ops ks = true) (hok : (ops.toList.all (operOk nt)) = true) {Q : St -> Prop} (hQk : ∀ st, Q st -> ∀ k, k ∈ ks -> gateF k st) {Qc : Exit -> Act -> World -> Prop}
  (hQ : ∀ st a w, Q st -> Since B W0 nt ρ0 ok0 w0 n0 st a w -> Qc .normal a w) :
  ∀ (fuel : Nat) (listed : Array Bool) (st : St) (a : Act) (w : World) (ρ : Nat -> Option Place) (ok : Nat -> Prop), listed.size = ops.size -> (left ops.size listed).length <= fuel ->
   (∀ k o, ops[k]? = some o -> listed.getD k true = true -> ∀ e, e ∈ o.after -> Region.binds .any e = true -> listed.getD e.on false = true) ->
   Rl B W0 ρ ok nt st a w -> Ext (fun i => n0 <= i) ρ0 ρ ok0 ok w0 w -> base + 4 * ops.size <= st.n -> (∀ k, k ∈ left ops.size listed -> ∀ j, j < 4 -> ρ (base + 4 * k + j) = none) -> runI P ops base (left ops.size listed) Q st -> wpAny P .any ops Qc fuel listed a w := by
 intro fuel
 have hready : ∀ (listed : Array Bool), listed.size = ops.size -> Region.ready .any ops listed = [] -> left ops.size listed = [] := by
  intro listed hsz hr;cases hl : left ops.size listed with
  | nil => rfl
  | cons x rest =>
   exfalso;have hx : x ∈ left ops.size listed := by rw [hl]; simp
   simp only [left, List.mem_filter, List.mem_range, Bool.not_eq_true'] at hx;obtain ⟨ox, hox⟩ : ∃ o, ops[x]? = some o := ⟨ops[x]'hx.1, by simp⟩
   have hmem : x ∈ Region.ready .any ops listed := by
    rw [mem_ready];refine ⟨hx.2, ox, hox, fun e he hb => ?_⟩;have h0 := List.all_eq_true.1 hd x (by simpa using hx.1);simp only [hox, Bool.and_eq_true] at h0
    have hon : e.on < x := by
     have := List.all_eq_true.1 h0.1.1 e (by simpa using he);simp only [hb, Bool.not_true, Bool.false_or, decide_eq_true_eq] at this;exact this
    have hnot : listed.getD e.on true = true := by
     cases hq : listed.getD e.on true with
     | true => rfl
     | false =>
      exfalso;obtain ⟨pre, post, h1, -, h3⟩ := left_split hx.1 hx.2
      have hpre : pre = [] := by
       cases pre with
       | nil => rfl
       | cons z zs =>
        rw [h1] at hl;simp at hl;have := h3 z (by simp);omega
      subst hpre
      have hin : e.on ∈ left ops.size listed := by
       simp only [left, List.mem_filter, List.mem_range, Bool.not_eq_true'];exact ⟨by omega, hq⟩
      have hs : (left ops.size listed).Pairwise (· < ·) := (List.pairwise_lt_range).filter _;rw [hl] at hin hs;simp only [List.mem_cons] at hin;rcases hin with hin | hin
      ·omega
      ·have := (List.pairwise_cons.1 hs).1 _ hin;omega
    have : e.on < listed.size := by omega
    simp [this] at hnot ⊢;exact hnot
   rw [hr] at hmem; cases hmem
 induction fuel with
 | zero =>
  intro listed st a w ρ ok hsz hlen hcl R x hn hfree hr;have hl0 : left ops.size listed = [] := List.eq_nil_of_length_eq_zero (by omega);rw [hl0] at hr;refine ⟨?_, hQ st a w hr ⟨ρ, ok, R, x, by omega⟩⟩;cases hre : Region.ready .any ops listed with
  | nil => rfl
  | cons i rest =>
   exfalso;have hi : i ∈ Region.ready .any ops listed := by rw [hre]; simp
   obtain ⟨h1, oi, h2, _⟩ := mem_ready.1 hi
   have : i ∈ left ops.size listed := by
    simp only [left, List.mem_filter, List.mem_range, Bool.not_eq_true'];exact ⟨(Array.getElem?_eq_some_iff.1 h2).1, h1⟩
   rw [hl0] at this; cases this
 | succ fuel ih =>
  intro listed st a w ρ ok hsz hlen hcl R x hn hfree hr;refine ⟨fun hre => ?_, fun i hi => ?_⟩
  ·have hl0 := hready listed hsz hre;rw [hl0] at hr;exact hQ st a w hr ⟨ρ, ok, R, x, by omega⟩
  ·obtain ⟨hli, oi, hoi, hre⟩ := mem_ready.1 hi;have hlt : i < ops.size := (Array.getElem?_eq_some_iff.1 hoi).1;obtain ⟨pre, post, hl1, hl2, hl3⟩ := left_split hlt hli;have hopi := List.all_eq_true.1 hok oi (by rw [<- Array.getElem?_toList] at hoi; exact List.mem_of_getElem? hoi);simp only [operOk, Bool.and_eq_true] at hopi;have h0 := List.all_eq_true.1 hd i (by simpa using hlt);simp only [hoi, Bool.and_eq_true] at h0
   have hpre : ∀ y, y ∈ pre -> ∃ oy, Free ops y i oy oi /\ pairOkG ops (closA ops) ks y i oy oi = true := by
    intro y hy;obtain ⟨hyi, hyl⟩ := hl3 y hy;have h1 := List.all_eq_true.1 h0.2 y (by simpa using hyi);simp only [Bool.or_eq_true] at h1;rcases h1 with h1 | h1
    ·exfalso;have := closed_memG hd hcl i oi hoi hre y (by simpa using h1);have hys : y < listed.size := by omega
     simp [hys] at this hyl;rw [this] at hyl; cases hyl
    ·obtain ⟨oy, hoy⟩ : ∃ oy, ops[y]? = some oy := ⟨ops[y]'(by omega), by simp⟩;simp only [hoy, Bool.and_eq_true] at h1;exact ⟨oy, ⟨hoy, by omega, h1.1⟩, h1.2⟩
   have hmem : ∀ k, k ∈ pre ++ post -> k ∈ left ops.size listed /\ k ≠ i := by
    intro k hk;have h1 : k ∈ left ops.size (listed.setIfInBounds i true) := by rw [hl2]; exact hk
    have h2 : k ∈ left ops.size listed := by
     rw [hl1];rcases List.mem_append.1 hk with h | h
     ·exact List.mem_append_left _ h
     ·exact List.mem_append_right _ (List.mem_cons_of_mem _ h)
    refine ⟨h2, fun e => ?_⟩;subst e;simp only [left, List.mem_filter, List.mem_range, Bool.not_eq_true'] at h1;have hks : k < listed.size := by omega
    simp [hks] at h1
   have himem : i ∈ left ops.size listed := by rw [hl1]; simp
   have hcl' : ∀ k o, ops[k]? = some o -> (listed.setIfInBounds i true).getD k true = true -> ∀ e, e ∈ o.after -> Region.binds .any e = true -> (listed.setIfInBounds i true).getD e.on false = true := by
    intro k o hk hkl e he hb;refine getD_set_true ?_;by_cases hki : k = i
    ·subst hki;rw [hoi] at hk; cases hk
     exact hre e he hb
    ·rw [getD_set_ne true (Ne.symm hki)] at hkl;exact hcl k o hk hkl e he hb
   have hlen' : (left ops.size (listed.setIfInBounds i true)).length <= fuel := by
    rw [hl2]; rw [hl1] at hlen; simp at hlen ⊢; omega
   have hnone : ∀ j, j < 4 -> st.h (base + 4 * i + j) = none := by
    intro j hj;have hp := hfree i himem j hj;cases hq : st.h (base + 4 * i + j) with
    | none => rfl
    | some e =>
     exfalso;rcases R.heap.row _ e hq with ⟨q, _⟩ | ⟨b, cap, cur, q, _⟩ <;> (rw [hp] at q; cases q)
   have rest : ∀ st' a' w' ρ' ok', runI P ops base (pre ++ post) Q st' -> Rl B W0 ρ' ok' nt st' a' w' -> Ext (Names (base + 4 * i) st.n) ρ ρ' ok ok' w w' -> st.n <= st'.n -> wpAny P .any ops Qc fuel (listed.setIfInBounds i true) a' w' := by
    intro st' a' w' ρ' ok' hk R' x' hn';refine ih _ st' a' w' ρ' ok' (by simpa using hsz) hlen' hcl' R' (x.trans (x'.weaken fun z hz => ?_)) (by omega) (fun k hk' j hj => ?_) (by rw [hl2]; exact hk)
    ·rcases hz with hz | hz <;> omega
    ·rw [hl2] at hk';obtain ⟨g1, g2⟩ := hmem k hk'
     have hkl : k < ops.size := by
      simp only [left, List.mem_filter, List.mem_range] at g1; exact g1.1
     rw [x'.pl _ (by rintro (hz | hz) <;> omega)];exact hfree k g1 j hj
   unfold wpOp;simp only [hoi];rw [want_sound R ops oi];rw [hl1] at hr;by_cases hw : wantA ops oi st.t = true
   ·rw [if_pos hw];refine Or.inl ?_
    have go : ∀ {h' : Heap} {r : AV}, Ef P (base + 4 * i) oi.op st.t st.h h' r -> runI P ops base (pre ++ post) Q (St.put ⟨st.t, h', st.n⟩ oi.dst r) -> oi.wp P a w (wpAny P .any ops Qc fuel (listed.setIfInBounds i true)) Qc := by
     intro h' r he hk;exact step_sound (draw := true) T R hopi.1 hopi.2 (by omega) (hfree i himem) (ef_step (K := runI P ops base (pre ++ post) Q) he hk) rest
    have hsort : sort oi.op = 0 \/ sort oi.op = 1 \/ sort oi.op = 2 := by
     unfold sort; split <;> simp
    rcases hsort with hs | hs | hs
    ·obtain ⟨rx, t', g1, g2, -, g4⟩ := front0 hoi pre st (fun y hy => (hpre y hy).imp fun oy h => h.1) (fun _ => hs) hr;obtain ⟨h', g2⟩ := g2 hw;refine go (h' := st.h) (r := rx) ?_ g4;unfold Ef;rw [if_neg (by rw [hs]; simp)];exact ⟨[], ((g2.free (h2 := st.h) hs).1).congr (fun o ho => (g1.ev ho).symm), by simp, rfl⟩
    ·-- what is left ahead of it, in the order of the text
     have hpw : (pre ++ i :: post).Pairwise (· < ·) := by
      rw [<- hl1]; exact (List.pairwise_lt_range).filter _
     have hncl : ∀ k, k ∈ pre ++ i :: post -> ((closA ops).getD i []).contains k = false := by
      intro k hk;cases hc : ((closA ops).getD i []).contains k with
      | false => rfl
      | true =>
       exfalso;have h1 := closed_memG hd hcl i oi hoi hre k (by simpa using hc);rw [<- hl1] at hk;simp only [left, List.mem_filter, List.mem_range, Bool.not_eq_true'] at hk;have hks : k < listed.size := by omega
       have h2 := hk.2;simp [hks] at h1 h2;rw [h1] at h2; cases h2
     have hnot : ∀ z, ρ z ≠ none -> ∀ y, y ∈ pre -> ¬ (base + 4 * y <= z /\ z < base + 4 * y + 4) := by
      intro z hz y hy hc;have hyl : y ∈ left ops.size listed := by rw [hl1]; exact List.mem_append_left _ hy
      have := hfree y hyl (z - (base + 4 * y)) (by omega);rw [show base + 4 * y + (z - (base + 4 * y)) = z by omega] at this;exact hz this
     by_cases hall : ∀ y, y ∈ pre -> ∀ oy, ops[y]? = some oy -> sort oy.op ≠ 2
     ·obtain ⟨rx, nx, t', h', g1, g2, g3, g4, g5⟩ := front1 hoi hs pre st (fun y hy => by
       obtain ⟨oy, f, hp⟩ := hpre y hy
       exact ⟨oy, f, hall y hy oy f.gy⟩) hw hnone hr
      refine go (h' := updL st.h (base + 4 * i) nx) (r := rx) ?_ g5;unfold Ef;rw [if_neg (by rw [hs]; simp)];refine ⟨nx, Rd.less R (fun z hz => g2 z fun y hy hc => hnot z hz y hy hc) hopi.1 (by rw [hs]; simp) (g3.congr (fun o ho => (g1.ev ho).symm)), g4, rfl⟩
     ·obtain ⟨y0, hy0⟩ := Classical.not_forall.1 hall;obtain ⟨hy0m, hy0⟩ := Classical.not_imp.1 hy0;obtain ⟨oy0, hy0⟩ := Classical.not_forall.1 hy0;obtain ⟨goy0, hy0⟩ := Classical.not_imp.1 hy0;have hs0 : sort oy0.op = 2 := Classical.not_not.1 hy0
      have T1 : ∀ z, touch oi.op st.t z -> ∀ y, y ∈ pre -> ¬ (base + 4 * y <= z /\ z < base + 4 * y + 4) := by
       intro z hz;cases hc : isCall oi.op with
       | false => exact hnot z (touch_there R hopi.1 hc hz)
       | true =>
        exfalso;obtain ⟨oy, f, hp⟩ := hpre y0 hy0m;have e : oy = oy0 := by have := f.gy; rw [goy0] at this; exact (Option.some.inj this).symm
        subst e;unfold pairOkG at hp;rw [hs0, hs] at hp;simp only [pairOk, Bool.or_eq_true, Bool.and_eq_true, beq_iff_eq] at hp
        have hp : marksOk ks oy.op oi.op = true /\ keptOk ops (closA ops) y0 i oy oi = true := by
         rcases hp with ((h | h) | h) | h
         ·cases h
         ·cases h
         ·cases h.1
         ·exact h
        obtain ⟨st', q1, q2⟩ := runI_end _ st hr;refine (marks_gate (hQk st' q1) hp.1).2.2 hc z (touch_congr (fun o ho => ?_) hz);cases o with
        | tmp k =>
         refine (q2 k fun k' hk' o' ho' e => ?_).symm;rcases List.mem_append.1 hk' with hm | hm
         ·obtain ⟨oz, fz, -⟩ := hpre k' hm;have e2 : oz = o' := by have := fz.gy; rw [ho'] at this; exact (Option.some.inj this).symm
          subst e2;refine fz.d1 k e ?_;unfold Oper.looksAt;exact List.mem_append_left _ (List.mem_filterMap.2 ⟨.tmp k, by simpa using ho, rfl⟩)
         ·have hlt' : k' < ops.size := (Array.getElem?_eq_some_iff.1 ho').1;have h3 := List.all_eq_true.1 hp.2 k' (by simpa using hlt');simp only [ho', e, Bool.or_eq_true, Bool.and_eq_true, Bool.not_eq_true', decide_eq_true_eq] at h3;have hy0i := (hl3 y0 hy0m).1
          have hik : i <= k' := by
           rcases List.mem_cons.1 hm with rfl | hm'
           ·exact Nat.le_refl _
           ·have := (List.pairwise_cons.1 (List.pairwise_append.1 hpw).2.1).1 k' hm';omega
          rcases h3 with (h3 | h3) | h3
          ·omega
          ·rw [hncl k' hk'] at h3; cases h3
          ·exact dst_kept h3.2 ho
        | _ => rfl
      obtain ⟨rx, t', h', g1, g2, g3⟩ := frontX hoi pre st (preOk_of hoi (by rw [hs]; simp) hQk pre hpw hncl hpre) hw hnone T1 hr;exact go (h' := h') (r := rx) (g2.congr (fun o ho => (g1.ev ho).symm)) g3
    ·have hpw : (pre ++ i :: post).Pairwise (· < ·) := by
      rw [<- hl1]; exact (List.pairwise_lt_range).filter _
     have hncl : ∀ k, k ∈ pre ++ i :: post -> ((closA ops).getD i []).contains k = false := by
      intro k hk;cases hc : ((closA ops).getD i []).contains k with
      | false => rfl
      | true =>
       exfalso;have h1 := closed_memG hd hcl i oi hoi hre k (by simpa using hc);rw [<- hl1] at hk;simp only [left, List.mem_filter, List.mem_range, Bool.not_eq_true'] at hk;have hks : k < listed.size := by omega
       have h2 := hk.2;simp [hks] at h1 h2;rw [h1] at h2; cases h2
     have hcall : isCall oi.op = false := by
      cases hc : isCall oi.op with
      | false => rfl
      | true =>
       exfalso;cases hop : oi.op <;> rw [hop] at hc hs <;> simp [isCall] at hc
       rename_i c;obtain ⟨callee, args, tys⟩ := c;cases callee <;> simp [sort] at hs <;> simp at hc
     obtain ⟨rx, t', h', g1, g2, g3⟩ := frontX hoi pre st (preOk_of hoi (by rw [hs]; simp) hQk pre hpw hncl hpre) hw hnone (fun z hz y hy hc => by
      have hyl : y ∈ left ops.size listed := by rw [hl1]; exact List.mem_append_left _ hy
      have := hfree y hyl (z - (base + 4 * y)) (by omega);rw [show base + 4 * y + (z - (base + 4 * y)) = z by omega] at this
      exact touch_there R hopi.1 hcall hz this) hr
     exact go (h' := h') (r := rx) (g2.congr (fun o ho => (g1.ev ho).symm)) g3
   ·rw [if_neg hw];obtain ⟨rx, t', -, -, g3, g4⟩ := front0 hoi pre st (fun y hy => (hpre y hy).imp fun oy h => h.1) (fun h => absurd h hw) hr;have := g3 hw;subst this;exact rest _ _ _ _ _ g4 (R.put (Ext.refl (Names (base + 4 * i) st.n) ρ ok w) R.heap (dst_lt hopi.2) .und) (Ext.refl _ _ _ _) (by cases oi.dst <;> exact Nat.le_refl _)
theorem draw_soundG (T : TypesOk P) (hm : P.follows .mixedOrders = true) {ρ0 : Nat -> Option Place} {ok0 : Nat -> Prop} {w0 : World} {n0 : Nat} {id : Nat} {ops : Array Oper} {ks : List Nat} (hd : drawOkG ops ks = true) (hok : (ops.toList.all (operOk nt)) = true) {Q : St -> Prop} (hQk : ∀ st, Q st -> ∀ k, k ∈ ks -> gateF k st) {st : St} {a : Act} {w : World} (S : Since B W0 nt ρ0 ok0 w0 n0 st a w)
  (hr : runR P true ops st.n ops.toList 0 Q ⟨st.t, st.h, st.n + 4 * ops.size⟩) {Qc : Exit -> Act -> World -> Prop} (hQ : ∀ st a w, Q st -> Since B W0 nt ρ0 ok0 w0 n0 st a w -> Qc .normal a w) : (Code.region id ops true).wp P Qc a w := by
 obtain ⟨ρ, ok, R, x, hn⟩ := S;have hdrew : Below B w w.drew := (Below.refl _ _).drew
 have R' : Rl B W0 ρ ok nt ⟨st.t, st.h, st.n + 4 * ops.size⟩ a w.drew := by
  refine ⟨⟨R.heap.below.drew, R.heap.base, R.heap.okb, fun i hi => R.heap.fresh i (by simp only at hi; omega), fun i e he => ?_, R.heap.inj⟩, fun k => (R.tmps k).mono (fun _ _ => rfl) (fun b hb => ⟨hb, rfl⟩), R.size, R.defers⟩;rcases R.heap.row i e he with h | ⟨b, cap, cur, q1, q2, q3, q4, q5, q6, q7, q8, q9, q10⟩
  ·exact Or.inl h
  ·exact Or.inr ⟨b, cap, cur, q1, q2, q3, q4, q5, q6, q7, q8, q9, q10.1, q10.2.1, fun j c u hc hu => (q10.2.2 j c u hc hu).mono (fun _ _ => rfl) (fun b hb => ⟨hb, rfl⟩)⟩
 have x' : Ext (fun i => n0 <= i) ρ0 ρ ok0 ok w0 w.drew := ⟨x.pl, x.keep, x.stay, x.new, x.size⟩
 have hrep : ∀ k, (Array.replicate ops.size false).getD k true = true -> ops.size <= k := by
  intro k hk;by_cases h : k < ops.size
  ·simp [h] at hk
  ·omega
 have hleft : left ops.size (Array.replicate ops.size false) = List.range ops.size := by
  unfold left;rw [List.filter_eq_self];intro k hk;simp at hk;simp [hk]
 refine wp_region_any hm ?_;refine draw_anyG T hn hd hok hQk hQ ops.size _ ⟨st.t, st.h, st.n + 4 * ops.size⟩ a w.drew ρ ok (by simp) (by rw [hleft]; simp) (fun k o hk hl => ?_) R' x' (Nat.le_refl _) (fun k hk j hj => ?_) ?_
 ·have h1 := hrep k hl;have h2 := (Array.getElem?_eq_some_iff.1 hk).1;omega
 ·rw [hleft] at hk;exact R.heap.fresh _ (by omega)
 ·rw [hleft, List.range_eq_range'];have := runR_runI (P := P) (ops := ops) (base := st.n) (Q := Q) ops.toList 0 ⟨st.t, st.h, st.n + 4 * ops.size⟩ rfl hr;simpa using this
def gatesA : List Nat -> (St -> Prop) -> St -> Prop
 | [], Q, st => Q st
 | k :: ks, Q, st => gateF k st /\ gatesA ks Q st
theorem gatesA_mem {ks : List Nat} {Q : St -> Prop} {st : St} (h : gatesA ks Q st) : Q st /\ ∀ k, k ∈ ks -> gateF k st := by
 induction ks with
 | nil => exact ⟨h, by simp⟩
 | cons k ks ih =>
  obtain ⟨h1, h2⟩ := ih h.2;refine ⟨h1, fun j hj => ?_⟩;rcases List.mem_cons.1 hj with rfl | hj
  ·exact h.1
  ·exact h2 j hj
def gatesC : List Nat -> Code
 | [] => .skip
 | k :: ks => .seq (.goto k) (gatesC ks)
def markOf : List (Nat × List Nat) -> Nat -> List Nat
 | [], _ => []
 | (k, l) :: T, id => if id = k then l else markOf T id
def markC (T : List (Nat × List Nat)) : Code -> Code
 | .region id ops d => .seq (.region id ops d) (gatesC (markOf T id))
 | .seq a b => .seq (markC T a) (markC T b)
 | .cond c x y => .cond c (markC T x) (markC T y)
 | .block id c => .block id (markC T c)
 | .loop c => .loop (markC T c)
 | c => c
theorem wp0_gates {ks : List Nat} {Q : Exit -> St -> Prop} : wp0 P (gatesC ks) Q = gatesA ks (Q .normal) := by
 induction ks with
 | nil => rfl
 | cons k ks ih =>
  funext st
  show (gateF k st /\ wp0 P (gatesC ks) Q st) = (gateF k st /\ gatesA ks (Q .normal) st);rw [ih]
theorem wp0_region {T : List (Nat × List Nat)} {id : Nat} {ops : Array Oper} {d : Bool} {Q : Exit -> St -> Prop} {st : St} :
  wp0 P (markC T (.region id ops d)) Q st = runR P d ops st.n ops.toList 0 (gatesA (markOf T id) (Q .normal)) ⟨st.t, st.h, st.n + 4 * ops.size⟩ := by
 show runR P d ops st.n ops.toList 0 (wp0 P (gatesC (markOf T id)) Q) ⟨st.t, st.h, st.n + 4 * ops.size⟩ = _;rw [wp0_gates]
section
variable {Q : Exit -> St -> Prop} {st : St} {T : List (Nat × List Nat)}
theorem wpM_skip : wpA P (markC T .skip) Q ⟨⟩ ⟨⟩ st = Q .normal st := rfl
theorem wpM_region {id : Nat} {l : List Oper} {d : Bool} : wpA P (markC T (.region id l.toArray d)) Q ⟨⟩ ⟨⟩ st = regA P d l.toArray st.n l 0 (gatesA (markOf T id) (Q .normal)) ⟨⟩ ⟨⟩ ⟨⟩ ⟨st.t, st.h, st.n + 4 * l.length⟩ := wp0_region
theorem wpM_region_app {id : Nat} {a b l : List Oper} {d : Bool} [i : App a b l] : wpA P (markC T (.region id (List.append a b).toArray d)) Q ⟨⟩ ⟨⟩ st = regA P d l.toArray st.n l 0 (gatesA (markOf T id) (Q .normal)) ⟨⟩ ⟨⟩ ⟨⟩ ⟨st.t, st.h, st.n + 4 * l.length⟩ := by
 have e : (List.append a b).toArray = l.toArray := by rw [<- i.h]; rfl
 rw [e];exact wpM_region
theorem wpM_seq {a b : Code} : wpA P (markC T (.seq a b)) Q ⟨⟩ ⟨⟩ st = wpA P (markC T a) (thenA (wpA P (markC T b) Q ⟨⟩ ⟨⟩) Q ⟨⟩ ⟨⟩) ⟨⟩ ⟨⟩ st := rfl
theorem wpM_cond {c : Operand} {x y : Code} : wpA P (markC T (.cond c x y)) Q ⟨⟩ ⟨⟩ st = bindO (boolOf (evA st.t c)) (fun b => brA b (wpA P (markC T x) Q ⟨⟩ ⟨⟩ st) (wpA P (markC T y) Q ⟨⟩ ⟨⟩ st) ⟨⟩ ⟨⟩) ⟨⟩ := rfl
theorem wpM_block {id : Nat} {c : Code} : wpA P (markC T (.block id c)) Q ⟨⟩ ⟨⟩ st = wpA P (markC T c) (blockA id Q ⟨⟩) ⟨⟩ ⟨⟩ st := rfl
theorem wpM_loop {c : Code} : wpA P (markC T (.loop c)) Q ⟨⟩ ⟨⟩ st = wpA P (.loop (markC T c)) Q ⟨⟩ ⟨⟩ st := rfl
theorem wpM_exit {id : Nat} : wpA P (markC T (.exit id)) Q ⟨⟩ ⟨⟩ st = Q (.exit id) st := rfl
theorem wpM_ret : wpA P (markC T .ret) Q ⟨⟩ ⟨⟩ st = Q .ret st := rfl
theorem gatesA_nil {Q : St -> Prop} {st : St} : gatesA [] Q st = Q st := rfl
theorem gatesA_cons {k : Nat} {ks : List Nat} {Q : St -> Prop} {st : St} : gatesA (k :: ks) Q st = (gateF k st /\ gatesA ks Q st) := rfl
end
def neRow (a b : Option Nat) : Prop := match a, b with | some i, some j => i ≠ j | _, _ => True
theorem apartA_eq (x y : AV) : apartA x y = neRow (rowNo x) (rowNo y) := by
 unfold apartA neRow;cases rowNo x with
 | none => simp
 | some i =>
  cases rowNo y with
  | none => simp
  | some j => simp; exact ⟨fun h e => h e.symm, fun h e => h e.symm⟩
attribute [simp] wpM_skip wpM_region wpM_region_app wpM_seq wpM_cond wpM_block wpM_loop wpM_exit wpM_ret gatesA_nil gatesA_cons markOf gateF.eq_def apartA_eq rowNo.eq_def neRow.eq_def
def codeOkG (P : Program) (T : List (Nat × List Nat)) (nt : Nat) : Code -> Bool
 | .skip | .exit _ | .ret => true
 | .region id ops d => ops.toList.all (operOk nt) && (!d || (drawOkG ops (markOf T id) && P.follows .mixedOrders))
 | .seq a b => codeOkG P T nt a && codeOkG P T nt b
 | .cond c x y => okOpd c && codeOkG P T nt x && codeOkG P T nt y
 | .block _ c => codeOkG P T nt c
 | .loop c => codeOkG P T nt c
 | _ => false
theorem code_soundG (T : TypesOk P) {M : List (Nat × List Nat)} {ρ0 : Nat -> Option Place} {ok0 : Nat -> Prop} {w0 : World} {n0 : Nat} : ∀ (c : Code) (Q : Exit -> St -> Prop) (st : St) (a : Act) (w : World), codeOkG P M nt c = true -> Since B W0 nt ρ0 ok0 w0 n0 st a w -> wp0 P (markC M c) Q st ->
  c.wp P (fun e a w => ∃ st, Q e st /\ Since B W0 nt ρ0 ok0 w0 n0 st a w) a w := by
 intro c
 induction c with
 | skip => intro Q st a w _ S h; exact wp_skip ⟨st, h, S⟩
 | region id ops d =>
  intro Q st a w hok S h;simp only [codeOkG, Bool.and_eq_true] at hok;rw [wp0_region] at h;cases d with
  | false => exact region_sound T hok.1 S h fun st a w hq S => ⟨st, (gatesA_mem hq).1, S⟩
  | true =>
   have h2 := hok.2;simp only [Bool.not_true, Bool.false_or, Bool.and_eq_true] at h2;exact draw_soundG T h2.2 h2.1 hok.1 (fun st hq => (gatesA_mem hq).2) S h fun st a w hq S => ⟨st, (gatesA_mem hq).1, S⟩
 | seq x y ihx ihy =>
  intro Q st a w hok S h;simp only [codeOkG, Bool.and_eq_true] at hok;refine wp_seq (wp_mono (ihx _ st a w hok.1 S h) ?_);rintro e a' w' ⟨st', hq, S'⟩;cases e with
  | normal => exact ihy Q st' a' w' hok.2 S' hq
  | exit id => exact ⟨st', hq, S'⟩
  | goto l => exact ⟨st', hq, S'⟩
  | ret => exact ⟨st', hq, S'⟩
  | panic c => exact ⟨st', hq, S'⟩
  | outgrown => exact ⟨st', hq, S'⟩
 | cond c x y ihx ihy =>
  intro Q st a w hok S h;simp only [codeOkG, Bool.and_eq_true] at hok;obtain ⟨b, hb, hbr⟩ := h
  have hv : a.eval c = .bool b := by
   obtain ⟨ρ, ok, R, _, _⟩ := S;have := ev_sound R hok.1.1;unfold boolOf at hb;split at hb
   ·rename_i b' heq;rw [heq] at this;cases hb;exact V_at this
   ·cases hb
  refine wp_cond hv ?_;cases b with
  | true => exact ihx Q st a w hok.1.2 S hbr
  | false => exact ihy Q st a w hok.2 S hbr
 | block id c ih =>
  intro Q st a w hok S h;refine wp_block (wp_mono (ih _ st a w hok S h) ?_);rintro e a' w' ⟨st', hq, S'⟩;cases e with
  | exit k =>
   simp only [Exit.inBlock];simp only [blockA] at hq;split
   ·rename_i hk; rw [if_pos hk] at hq; exact ⟨st', hq, S'⟩
   ·rename_i hk; rw [if_neg hk] at hq; exact ⟨st', hq, S'⟩
  | normal => exact ⟨st', hq, S'⟩
  | goto l => exact ⟨st', hq, S'⟩
  | ret => exact ⟨st', hq, S'⟩
  | panic c => exact ⟨st', hq, S'⟩
  | outgrown => exact ⟨st', hq, S'⟩
 | loop c ih =>
  intro Q st a w hok S h;obtain ⟨I, m, h0, hround⟩ := h;refine wp_loop (fun a w => ∃ st, I st /\ Since B W0 nt ρ0 ok0 w0 n0 st a w) (least I (Since B W0 nt ρ0 ok0 w0 n0) m) ⟨st, h0, S⟩ ?_;rintro a w ⟨s, hi, hs⟩;obtain ⟨⟨s', hi', hs', hm'⟩, -⟩ := least_spec (m := m) hi hs;refine wp_mono (ih _ s' a w hok hs' (hround s' hi')) ?_;rintro e a' w' ⟨st', hq, S'⟩;cases e with
  | normal =>
   refine ⟨⟨st', hq.1, S'⟩, ?_⟩;have := (least_spec (m := m) hq.1 S').2;have := hq.2;omega
  | exit id => exact ⟨st', hq, S'⟩
  | goto l => exact ⟨st', hq, S'⟩
  | ret => exact ⟨st', hq, S'⟩
  | panic c => exact ⟨st', hq, S'⟩
  | outgrown => exact ⟨st', hq, S'⟩
 | exit id => intro Q st a w _ S h; exact wp_exit ⟨st, h, S⟩
 | ret => intro Q st a w _ S h; exact wp_ret ⟨st, h, S⟩
 | rangeFunc => intro Q st a w hok; simp [codeOkG] at hok
 | scope => intro Q st a w hok; simp [codeOkG] at hok
 | label => intro Q st a w hok; simp [codeOkG] at hok
 | goto => intro Q st a w hok; simp [codeOkG] at hok
 | refuse => intro Q st a w hok; simp [codeOkG] at hok
theorem CS_inlineG (T : TypesOk P) (M : List (Nat × List Nat)) {f : FuncId} {fn : Func} {c : Code} {args : List AV} {h : Heap} {n : Nat} {Q : Heap -> Nat -> AV -> Prop} (hf : P.funcs[f]? = some fn) (hc : Callable P f) (hb : fn.body = some c) (hok : codeOkG P M fn.ntmps c = true) (hl : args.length <= fn.ntmps)
  (hw : wpA P (markC M c) (endA P fn.results.toList Q ⟨⟩) ⟨⟩ ⟨⟩ ⟨initT args, h, n⟩) : CS P f args h n Q := by
 refine ⟨hc, fun B W0 ρ ok w vs H hv => ?_⟩;refine calls_of_wp hf hb ?_;have hlen := hv.1
 have R : Rl B W0 ρ ok fn.ntmps ⟨initT args, h, n⟩ { tmps := vs.toArray ++ Array.replicate (fn.ntmps - vs.toArray.size) undef, defers := [] } w := by
  refine ⟨H, fun k => ?_, by simp; omega, rfl⟩;show V B ρ ok w ((args[k]?).getD .und) _;by_cases hk : k < args.length
  ·obtain ⟨c, hc⟩ : ∃ c, args[k]? = some c := ⟨args[k], by simp⟩;obtain ⟨u, hu⟩ : ∃ u, vs[k]? = some u := ⟨vs[k]'(by omega), by simp⟩
   have e : (vs.toArray ++ Array.replicate (fn.ntmps - vs.toArray.size) undef).getD k undef = u := by
    have : k < vs.length := by omega
    obtain ⟨g1, g2⟩ := List.getElem?_eq_some_iff.1 hu;simp [Array.getElem?_append, this, g2]
   rw [hc, e];exact hv.2 k c u hc hu
  ·have e1 : args[k]? = none := by simp; omega
   have e2 : (vs.toArray ++ Array.replicate (fn.ntmps - vs.toArray.size) undef).getD k undef = undef := by
    have : ¬ k < vs.length := by omega
    simp only [Array.getD_eq_getD_getElem?, Array.getElem?_append];simp [this];by_cases h2 : k - vs.length < fn.ntmps - vs.length <;> simp [h2]
   rw [e1, e2];exact .und
 refine wp_mono (code_soundG T c _ _ _ w hok ⟨ρ, ok, R, Ext.refl _ _ _ _, Nat.le_refl _⟩ hw) ?_;rintro e a' w' ⟨st', hq, ρ', ok', R', x, hn⟩
 have fin : ∀ r, resultsA P fn.results.toList st' = some r -> Q st'.h st'.n r -> a'.defers = [] /\ ∃ v, (results fn a'.tmps).run P w' = .ok v w' /\ ∃ v_1 h' n' r ρ' ok', Ending.returned v = .returned v_1 /\ Q h' n' r /\ n <= n' /\ HRel B W0 ρ' ok' h' n' w' /\ V B ρ' ok' w' r v_1 /\ Ext (fun i => n <= i) ρ ρ' ok ok' w w' := by
  intro r hr hq;obtain ⟨z, h1, h2⟩ := results_sound R' hr;exact ⟨R'.defers, z, h1, z, _, _, r, ρ', ok', rfl, hq, hn, R'.heap, h2, x⟩
 cases e with
 | normal => obtain ⟨r, hr, hq⟩ := hq; exact fin r hr hq
 | ret => obtain ⟨r, hr, hq⟩ := hq; exact fin r hr hq
 | exit id => exact hq.elim
 | goto l => exact hq.elim
 | panic c => exact hq.elim
 | outgrown => exact hq.elim
theorem C_inlineG {f : FuncId} {fn : Func} {c : Code} {args : List AV} {r : AV} {news : List HE} (M : List (Nat × List Nat)) (keep : List Nat) (hf : P.funcs[f]? = some fn) (hc : Callable P f) (hb : fn.body = some c) (hok : codeOkG P M fn.ntmps c = true) (hl : Nat.ble args.length fn.ntmps = true)
  (hnd : keep.Nodup) (hargs : args.all canonV = true) (hres : resV r = true) (hpn : plainNews news = true)
  (hw : wpA P (markC M c) (endA P fn.results.toList (Ends keep r news) ⟨⟩) ⟨⟩ ⟨⟩ ⟨initT args, fun _ => none, 0⟩) : C P f args r news :=
 C_of (S := Sub) (fun h hv => Sub.v h hv) keep hnd hargs hres hpn (CS_inlineG (typesOk P) M hf hc hb hok (Nat.le_of_ble_eq_true hl) hw)
end
end Go.Proofs.YtadmfokicjjglaaGreatDoor.E
namespace Go.Proofs.YtadmfokicjjglaaGreatDoor.E
open Go.RowKit
set_option linter.unusedSimpArgs false
set_option linter.unusedVariables false
theorem ap0 {i s : Nat} (h : i < s) : ¬ i = s := by omega
theorem ap1 {i s : Nat} (h : i < s) : ∀ a, ¬ i = s + a := by omega
theorem ap2 {i s : Nat} (h : i < s) : ∀ a b, ¬ i = s + a + b := by omega
theorem ap3 {i s : Nat} (h : i < s) : ∀ a b c, ¬ i = s + a + b + c := by omega
theorem ap4 {i s : Nat} (h : i < s) : ¬ s = i := by omega
theorem ap5 {i s : Nat} (h : i < s) : ∀ a, ¬ s + a = i := by omega
theorem ap6 {i s : Nat} (h : i < s) : ∀ a b, ¬ s + a + b = i := by omega
theorem ap7 {i s : Nat} (h : i < s) : ∀ a b c, ¬ s + a + b + c = i := by omega
theorem ap8 {i s : Nat} (h : i < s) : ∀ a b c d, ¬ i = s + a + b + c + d := by omega
theorem ap9 {i s : Nat} (h : i < s) : ∀ a b c d, ¬ s + a + b + c + d = i := by omega
theorem ap10 {i s : Nat} (h : i < s) : ∀ a b c d e, ¬ i = s + a + b + c + d + e := by omega
theorem ap11 {i s : Nat} (h : i < s) : ∀ a b c d e, ¬ s + a + b + c + d + e = i := by omega
theorem ap12 {i s : Nat} (h : i < s) : ∀ a b c d e f, ¬ i = s + a + b + c + d + e + f := by omega
theorem ap13 {i s : Nat} (h : i < s) : ∀ a b c d e f, ¬ s + a + b + c + d + e + f = i := by omega
theorem ap14 {i s : Nat} (h : i < s) : ∀ a b c d e f g, ¬ i = s + a + b + c + d + e + f + g := by omega
theorem ap15 {i s : Nat} (h : i < s) : ∀ a b c d e f g, ¬ s + a + b + c + d + e + f + g = i := by omega
theorem ap16 {i s : Nat} (h : i < s) : ∀ a b c d e f g k, ¬ i = s + a + b + c + d + e + f + g + k := by omega
theorem ap17 {i s : Nat} (h : i < s) : ∀ a b c d e f g k, ¬ s + a + b + c + d + e + f + g + k = i := by omega
section
variable {P : Program}
open Classical in
noncomputable def leastR (n : Nat) (R : Nat -> St -> Prop) (s : St) : Nat :=
 if h : ∃ j, j <= n /\ R (n - j) s then Classical.choose (exists_least h) else 0
theorem leastR_spec {n : Nat} {R : Nat -> St -> Prop} {s : St} {k : Nat} (hk : k <= n) (h : R k s) : leastR n R s <= n - k /\ R (n - leastR n R s) s /\ leastR n R s <= n := by
 have hex : ∃ j, j <= n /\ R (n - j) s := ⟨n - k, by omega, by rwa [show n - (n - k) = k by omega]⟩;have e : leastR n R s = Classical.choose (exists_least hex) := by unfold leastR; rw [dif_pos hex]
 obtain ⟨h1, h2⟩ := Classical.choose_spec (exists_least hex);rw [<- e] at h1 h2;exact ⟨h2 _ ⟨by omega, by rwa [show n - (n - k) = k by omega]⟩, h1.2, h1.1⟩
theorem loop_ghost {c : Code} {Q : Exit -> St -> Prop} {st : St} (n : Nat) (R : Nat -> Heap -> Nat -> (Nat -> AV) -> Prop) (W : List Nat) (hW : writes c = W) (hR : R 0 st.h st.n st.t)
  (round : ∀ (k : Nat) (t : Nat -> AV) (h : Heap) (m : Nat), k < n -> Same W st.t t -> R k h m t -> wpA P c (thenA (fun s' => R (k + 1) s'.h s'.n s'.t) Q ⟨⟩ ⟨⟩) ⟨⟩ ⟨⟩ ⟨t, h, m⟩)
  (last : ∀ (t : Nat -> AV) (h : Heap) (m : Nat), Same W st.t t -> R n h m t -> wpA P c (thenA (fun _ => False) Q ⟨⟩ ⟨⟩) ⟨⟩ ⟨⟩ ⟨t, h, m⟩) : wpA P (.loop c) Q ⟨⟩ ⟨⟩ st := by
 let R' : Nat -> St -> Prop := fun k s => R k s.h s.n s.t
 refine wpA_loop (fun s => (∃ k, k <= n /\ R' k s) /\ Same W st.t s.t) (leastR n R') ⟨⟨0, Nat.zero_le _, hR⟩, Same.refl _ _⟩ ?_;rintro s ⟨⟨k, hk, h2⟩, h3⟩;have hw : ∀ x, x ∈ writes c -> x ∈ W := fun x hx => hW ▸ hx
 obtain ⟨l1, l2, l3⟩ := leastR_spec hk h2;obtain ⟨t, h, m⟩ := s;by_cases hz : leastR n R' ⟨t, h, m⟩ = 0
 ·rw [hz] at l2;refine wp_same c (t0 := st.t) hw ?_ h3 (last t h m h3 l2);intro e s hq hs;cases e with
  | normal => exact hq.elim
  | exit k => exact hq
  | goto k => exact hq
  | ret => exact hq
  | panic k => exact hq
  | outgrown => exact hq
 ·refine wp_same c (t0 := st.t) hw ?_ h3 (round _ t h m (by omega) h3 l2);intro e s hq hs;cases e with
  | normal =>
   have hle : n - leastR n R' ⟨t, h, m⟩ + 1 <= n := by omega
   refine ⟨⟨⟨_, hle, hq⟩, hs⟩, ?_⟩;have := (leastR_spec (R := R') (s := s) hle hq).1;omega
  | exit k => exact hq
  | goto k => exact hq
  | ret => exact hq
  | panic k => exact hq
  | outgrown => exact hq
end
end Go.Proofs.YtadmfokicjjglaaGreatDoor.E
namespace Go.Proofs.YtadmfokicjjglaaGreatDoor.E
open Go.RowKit
set_option linter.unusedSimpArgs false
set_option linter.unusedVariables false
abbrev Hook := St -> (St -> Prop) -> Prop
def HookOk (P : Program) (nt : Nat) (c : Code) (F : Hook) : Prop :=
 ∀ (B : Nat) (W0 : World) (ρ0 : Nat -> Option Place) (ok0 : Nat -> Prop) (w0 : World) (n0 : Nat) (Q : St -> Prop) (st : St) (a : Act) (w : World), Since B W0 nt ρ0 ok0 w0 n0 st a w -> F st Q ->
  c.wp P (fun e a w => e = .normal /\ ∃ st, Q st /\ Since B W0 nt ρ0 ok0 w0 n0 st a w) a w
def hookAll (P : Program) (nt k : Nat) (F : Hook) : Code -> Prop
 | .region id ops d => if id = k then HookOk P nt (.region id ops d) F else True
 | .seq a b => hookAll P nt k F a /\ hookAll P nt k F b
 | .cond _ x y => hookAll P nt k F x /\ hookAll P nt k F y
 | .block _ c => hookAll P nt k F c
 | _ => True
def codeOkH (P : Program) (T : List (Nat × List Nat)) (nt k : Nat) : Code -> Bool
 | .region id ops d => decide (id = k) || codeOkG P T nt (.region id ops d)
 | .seq a b => codeOkH P T nt k a && codeOkH P T nt k b
 | .cond c x y => okOpd c && codeOkH P T nt k x && codeOkH P T nt k y
 | .block _ c => codeOkH P T nt k c
 | c => codeOkG P T nt c
def wpH0 (P : Program) (T : List (Nat × List Nat)) (k : Nat) (F : Hook) : Code -> (Exit -> St -> Prop) -> St -> Prop
 | .region id ops d, Q, st => brA (decide (id = k)) (F st (Q .normal)) (wp0 P (markC T (.region id ops d)) Q st) ⟨⟩ ⟨⟩
 | .seq a b, Q, st => wpH0 P T k F a (thenA (wpH0 P T k F b Q) Q ⟨⟩ ⟨⟩) st
 | .cond c x y, Q, st => bindO (boolOf (evA st.t c)) (fun b => brA b (wpH0 P T k F x Q st) (wpH0 P T k F y Q st) ⟨⟩ ⟨⟩) ⟨⟩
 | .block id c, Q, st => wpH0 P T k F c (blockA id Q ⟨⟩) st
 | c, Q, st => wp0 P (markC T c) Q st
def wpH (P : Program) (T : List (Nat × List Nat)) (k : Nat) (F : Hook) (c : Code) (Q : Exit -> St -> Prop) (_ : Tg F) (_ : Tg c) (_ : Tg Q) (st : St) : Prop := wpH0 P T k F c Q st
section
variable {P : Program} {Q : Exit -> St -> Prop} {st : St} {T : List (Nat × List Nat)} {k : Nat} {F : Hook}
theorem wpH_region {id : Nat} {l : List Oper} {d : Bool} : wpH P T k F (.region id l.toArray d) Q ⟨⟩ ⟨⟩ ⟨⟩ st = brA (decide (id = k)) (F st (Q .normal)) (wpA P (markC T (.region id l.toArray d)) Q ⟨⟩ ⟨⟩ st) ⟨⟩ ⟨⟩ := rfl
theorem wpH_region_app {id : Nat} {a b : List Oper} {d : Bool} : wpH P T k F (.region id (List.append a b).toArray d) Q ⟨⟩ ⟨⟩ ⟨⟩ st = brA (decide (id = k)) (F st (Q .normal)) (wpA P (markC T (.region id (List.append a b).toArray d)) Q ⟨⟩ ⟨⟩ st) ⟨⟩ ⟨⟩ := rfl
theorem wpH_skip : wpH P T k F .skip Q ⟨⟩ ⟨⟩ ⟨⟩ st = Q .normal st := rfl
theorem wpH_seq {a b : Code} : wpH P T k F (.seq a b) Q ⟨⟩ ⟨⟩ ⟨⟩ st = wpH P T k F a (thenA (wpH P T k F b Q ⟨⟩ ⟨⟩ ⟨⟩) Q ⟨⟩ ⟨⟩) ⟨⟩ ⟨⟩ ⟨⟩ st := rfl
theorem wpH_cond {c : Operand} {x y : Code} : wpH P T k F (.cond c x y) Q ⟨⟩ ⟨⟩ ⟨⟩ st = bindO (boolOf (evA st.t c)) (fun b => brA b (wpH P T k F x Q ⟨⟩ ⟨⟩ ⟨⟩ st) (wpH P T k F y Q ⟨⟩ ⟨⟩ ⟨⟩ st) ⟨⟩ ⟨⟩) ⟨⟩ := rfl
theorem wpH_block {id : Nat} {c : Code} : wpH P T k F (.block id c) Q ⟨⟩ ⟨⟩ ⟨⟩ st = wpH P T k F c (blockA id Q ⟨⟩) ⟨⟩ ⟨⟩ ⟨⟩ st := rfl
theorem wpH_loop {c : Code} : wpH P T k F (.loop c) Q ⟨⟩ ⟨⟩ ⟨⟩ st = wpA P (markC T (.loop c)) Q ⟨⟩ ⟨⟩ st := rfl
theorem wpH_exit {id : Nat} : wpH P T k F (.exit id) Q ⟨⟩ ⟨⟩ ⟨⟩ st = Q (.exit id) st := rfl
theorem wpH_ret : wpH P T k F .ret Q ⟨⟩ ⟨⟩ ⟨⟩ st = Q .ret st := rfl
end
attribute [simp] wpH_region wpH_region_app wpH_skip wpH_seq wpH_cond wpH_block wpH_loop wpH_exit wpH_ret
section
variable {P : Program} {B : Nat} {W0 : World} {nt : Nat}
theorem code_soundH (T : TypesOk P) {M : List (Nat × List Nat)} {k : Nat} {F : Hook} {ρ0 : Nat -> Option Place} {ok0 : Nat -> Prop} {w0 : World} {n0 : Nat} : ∀ (c : Code) (Q : Exit -> St -> Prop) (st : St) (a : Act) (w : World), hookAll P nt k F c -> codeOkH P M nt k c = true -> Since B W0 nt ρ0 ok0 w0 n0 st a w -> wpH0 P M k F c Q st ->
  c.wp P (fun e a w => ∃ st, Q e st /\ Since B W0 nt ρ0 ok0 w0 n0 st a w) a w := by
 intro c
 induction c with
 | region id ops d =>
  intro Q st a w hh hok S h;by_cases hid : id = k
  ·simp only [hookAll, if_pos hid] at hh;simp only [wpH0, hid, decide_true, brA_true] at h;refine wp_mono (hh B W0 ρ0 ok0 w0 n0 _ st a w S h) ?_;rintro e a' w' ⟨rfl, st', hq, S'⟩;exact ⟨st', hq, S'⟩
  ·simp only [codeOkH, hid, decide_false, Bool.false_or] at hok;simp only [wpH0, hid, decide_false, brA_false] at h;exact code_soundG T (M := M) _ Q st a w hok S h
 | seq x y ihx ihy =>
  intro Q st a w hh hok S h;simp only [codeOkH, Bool.and_eq_true] at hok;refine wp_seq (wp_mono (ihx _ st a w hh.1 hok.1 S h) ?_);rintro e a' w' ⟨st', hq, S'⟩;cases e with
  | normal => exact ihy Q st' a' w' hh.2 hok.2 S' hq
  | exit id => exact ⟨st', hq, S'⟩
  | goto l => exact ⟨st', hq, S'⟩
  | ret => exact ⟨st', hq, S'⟩
  | panic c => exact ⟨st', hq, S'⟩
  | outgrown => exact ⟨st', hq, S'⟩
 | cond c x y ihx ihy =>
  intro Q st a w hh hok S h;simp only [codeOkH, Bool.and_eq_true] at hok;obtain ⟨b, hb, hbr⟩ := h
  have hv : a.eval c = .bool b := by
   obtain ⟨ρ, ok, R, _, _⟩ := S;have := ev_sound R hok.1.1;unfold boolOf at hb;split at hb
   ·rename_i b' heq;rw [heq] at this;cases hb;exact V_at this
   ·cases hb
  refine wp_cond hv ?_;cases b with
  | true => exact ihx Q st a w hh.1 hok.1.2 S hbr
  | false => exact ihy Q st a w hh.2 hok.2 S hbr
 | block id c ih =>
  intro Q st a w hh hok S h;refine wp_block (wp_mono (ih _ st a w hh hok S h) ?_);rintro e a' w' ⟨st', hq, S'⟩;cases e with
  | exit k =>
   simp only [Exit.inBlock];simp only [blockA] at hq;split
   ·rename_i hk; rw [if_pos hk] at hq; exact ⟨st', hq, S'⟩
   ·rename_i hk; rw [if_neg hk] at hq; exact ⟨st', hq, S'⟩
  | normal => exact ⟨st', hq, S'⟩
  | goto l => exact ⟨st', hq, S'⟩
  | ret => exact ⟨st', hq, S'⟩
  | panic c => exact ⟨st', hq, S'⟩
  | outgrown => exact ⟨st', hq, S'⟩
 | skip => intro Q st a w _ hok S h; exact code_soundG T (M := M) _ Q st a w hok S h
 | loop c ih => intro Q st a w _ hok S h; exact code_soundG T (M := M) _ Q st a w hok S h
 | exit id => intro Q st a w _ hok S h; exact code_soundG T (M := M) _ Q st a w hok S h
 | ret => intro Q st a w _ hok S h; exact code_soundG T (M := M) _ Q st a w hok S h
 | rangeFunc => intro Q st a w _ hok; simp [codeOkH, codeOkG] at hok
 | scope => intro Q st a w _ hok; simp [codeOkH, codeOkG] at hok
 | label => intro Q st a w _ hok; simp [codeOkH, codeOkG] at hok
 | goto => intro Q st a w _ hok; simp [codeOkH, codeOkG] at hok
 | refuse => intro Q st a w _ hok; simp [codeOkH, codeOkG] at hok
theorem CS_inlineH (T : TypesOk P) (M : List (Nat × List Nat)) (k : Nat) (F : Hook) {f : FuncId} {fn : Func} {c : Code} {args : List AV} {h : Heap} {n : Nat} {Q : Heap -> Nat -> AV -> Prop} (hf : P.funcs[f]? = some fn) (hc : Callable P f) (hb : fn.body = some c) (hok : codeOkH P M fn.ntmps k c = true) (hh : hookAll P fn.ntmps k F c) (hl : args.length <= fn.ntmps)
  (hw : wpH P M k F c (endA P fn.results.toList Q ⟨⟩) ⟨⟩ ⟨⟩ ⟨⟩ ⟨initT args, h, n⟩) : CS P f args h n Q := by
 refine ⟨hc, fun B W0 ρ ok w vs H hv => ?_⟩;refine calls_of_wp hf hb ?_;have hlen := hv.1
 have R : Rl B W0 ρ ok fn.ntmps ⟨initT args, h, n⟩ { tmps := vs.toArray ++ Array.replicate (fn.ntmps - vs.toArray.size) undef, defers := [] } w := by
  refine ⟨H, fun k => ?_, by simp; omega, rfl⟩;show V B ρ ok w ((args[k]?).getD .und) _;by_cases hk : k < args.length
  ·obtain ⟨c, hc⟩ : ∃ c, args[k]? = some c := ⟨args[k], by simp⟩;obtain ⟨u, hu⟩ : ∃ u, vs[k]? = some u := ⟨vs[k]'(by omega), by simp⟩
   have e : (vs.toArray ++ Array.replicate (fn.ntmps - vs.toArray.size) undef).getD k undef = u := by
    have : k < vs.length := by omega
    obtain ⟨g1, g2⟩ := List.getElem?_eq_some_iff.1 hu;simp [Array.getElem?_append, this, g2]
   rw [hc, e];exact hv.2 k c u hc hu
  ·have e1 : args[k]? = none := by simp; omega
   have e2 : (vs.toArray ++ Array.replicate (fn.ntmps - vs.toArray.size) undef).getD k undef = undef := by
    have : ¬ k < vs.length := by omega
    simp only [Array.getD_eq_getD_getElem?, Array.getElem?_append];simp [this];by_cases h2 : k - vs.length < fn.ntmps - vs.length <;> simp [h2]
   rw [e1, e2];exact .und
 refine wp_mono (code_soundH T c _ _ _ w hh hok ⟨ρ, ok, R, Ext.refl _ _ _ _, Nat.le_refl _⟩ hw) ?_;rintro e a' w' ⟨st', hq, ρ', ok', R', x, hn⟩
 have fin : ∀ r, resultsA P fn.results.toList st' = some r -> Q st'.h st'.n r -> a'.defers = [] /\ ∃ v, (results fn a'.tmps).run P w' = .ok v w' /\ ∃ v_1 h' n' r ρ' ok', Ending.returned v = .returned v_1 /\ Q h' n' r /\ n <= n' /\ HRel B W0 ρ' ok' h' n' w' /\ V B ρ' ok' w' r v_1 /\ Ext (fun i => n <= i) ρ ρ' ok ok' w w' := by
  intro r hr hq;obtain ⟨z, h1, h2⟩ := results_sound R' hr;exact ⟨R'.defers, z, h1, z, _, _, r, ρ', ok', rfl, hq, hn, R'.heap, h2, x⟩
 cases e with
 | normal => obtain ⟨r, hr, hq⟩ := hq; exact fin r hr hq
 | ret => obtain ⟨r, hr, hq⟩ := hq; exact fin r hr hq
 | exit id => exact hq.elim
 | goto l => exact hq.elim
 | panic c => exact hq.elim
 | outgrown => exact hq.elim
theorem C_inlineH {f : FuncId} {fn : Func} {c : Code} {args : List AV} {r : AV} {news : List HE} (M : List (Nat × List Nat)) (k : Nat) (F : Hook) (keep : List Nat) (hf : P.funcs[f]? = some fn) (hc : Callable P f) (hb : fn.body = some c) (hok : codeOkH P M fn.ntmps k c = true) (hh : hookAll P fn.ntmps k F c) (hl : Nat.ble args.length fn.ntmps = true)
  (hnd : keep.Nodup) (hargs : args.all canonV = true) (hres : resV r = true) (hpn : plainNews news = true)
  (hw : wpH P M k F c (endA P fn.results.toList (Ends keep r news) ⟨⟩) ⟨⟩ ⟨⟩ ⟨⟩ ⟨initT args, fun _ => none, 0⟩) : C P f args r news :=
 C_of (S := Sub) (fun h hv => Sub.v h hv) keep hnd hargs hres hpn (CS_inlineH (typesOk P) M k F hf hc hb hok hh (Nat.le_of_ble_eq_true hl) hw)
end
end Go.Proofs.YtadmfokicjjglaaGreatDoor.E
namespace Go.Proofs.YtadmfokicjjglaaGreatDoor.E
theorem CG {P : Program} {f : FuncId} {fn : Func} {c : Code} {args : List AV} {r : AV} {news : List HE} (M : List (Nat × List Nat)) (hf : P.funcs[f]? = some fn)
  (hw : wpA P (markC M c) (endA P fn.results.toList (Ends [] r news) ⟨⟩) ⟨⟩ ⟨⟩ ⟨initT args, fun _ => none, 0⟩)
  (hb : fn.body = some c := by rfl) (hc : Callable P f := by exact fun _ _ => by kernel_rfl) (hok : codeOkG P M fn.ntmps c = true := by kernel_rfl) (hl : Nat.ble args.length fn.ntmps = true := by rfl)
  (hargs : args.all canonV = true := by rfl) (hres : resV r = true := by rfl) (hpn : plainNews news = true := by rfl) : C P f args r news := C_inlineG M [] hf hc hb hok hl (by decide) hargs hres hpn hw
theorem apA {i s : Nat} (h : i < s) : (¬ i = s) /\ (∀ a, ¬ i = s + a) /\ (∀ a b, ¬ i = s + a + b) /\ (∀ a b c, ¬ i = s + a + b + c) /\ (¬ s = i) /\ (∀ a, ¬ s + a = i) /\ (∀ a b, ¬ s + a + b = i) /\ (∀ a b c, ¬ s + a + b + c = i) /\ (∀ a b c d, ¬ i = s + a + b + c + d) /\ (∀ a b c d, ¬ s + a + b + c + d = i) /\
  (∀ a b c d e, ¬ i = s + a + b + c + d + e) /\ (∀ a b c d e, ¬ s + a + b + c + d + e = i) /\ (∀ a b c d e f, ¬ i = s + a + b + c + d + e + f) /\ (∀ a b c d e f, ¬ s + a + b + c + d + e + f = i) /\ (∀ a b c d e f g, ¬ i = s + a + b + c + d + e + f + g) /\ (∀ a b c d e f g, ¬ s + a + b + c + d + e + f + g = i) /\
  (∀ a b c d e f g k, ¬ i = s + a + b + c + d + e + f + g + k) /\ (∀ a b c d e f g k, ¬ s + a + b + c + d + e + f + g + k = i) :=
 ⟨ap0 h, ap1 h, ap2 h, ap3 h, ap4 h, ap5 h, ap6 h, ap7 h, ap8 h, ap9 h, ap10 h, ap11 h, ap12 h, ap13 h, ap14 h, ap15 h, ap16 h, ap17 h⟩
end Go.Proofs.YtadmfokicjjglaaGreatDoor.E
