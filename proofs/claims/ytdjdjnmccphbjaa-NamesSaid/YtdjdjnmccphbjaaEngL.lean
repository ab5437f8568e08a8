/- EngL: operations whose order is open: what each of them leans on. -/
import Derived.Test.YtdjdjnmccphbjaaEngK
namespace Go.Proofs.Ytdjdjnmccphbjaa.E
open Go.RowKit
set_option linter.unusedSimpArgs false

section
variable {P : Program}

/-- what an operation that does not write does: its result, and rows that it makes -/
def Rd (P : Program) (id : Nat) (op : Op) (t : Nat → AV) (h : Heap) (r : AV) (news : List HE) : Prop :=
  match op with
  | .alloc _ | .box _ _ | .buildSlice _ _ _ | .makeSlice _ _ _ => ∃ e, newA P t id op = some (e, r) ∧ news = [e]
  | .call ⟨.value g, args, _⟩ => ∃ f caps r0 args', fnOf (evA t g) = some (f, caps) ∧ (args.toList.map (evA t) ++ caps).mapM (viewV h) = some args' ∧ C P f args' r0 news ∧
      ((newV r0 = true ∧ newNews news = true) ∨ (args.toList.map (evA t) ++ caps).all plainV = true) ∧ r = shiftV id r0
  | op => valA P t h op = some r ∧ news = []

/-- what sort of an operation it is: 0: it leans on no memory; 1: it reads, or makes, or calls; 2: it writes -/
def sort : Op → Nat
  | .move _ | .assign _ | .pick _ _ _ | .nilCheck _ | .binOp _ _ _ _ _ | .unOp _ _ _ | .extract _ _ | .fieldAddr _ _ _ | .index _ _ _ | .build _ _ | .makeFunc _ _ _ => 0
  | .call ⟨.builtin .len, _, _⟩ | .call ⟨.builtin .min, _, _⟩ => 0
  | .load _ _ | .indexAddr _ _ _ | .slice _ _ _ _ _ | .alloc _ | .box _ _ | .buildSlice _ _ _ | .makeSlice _ _ _ => 1
  | .call ⟨.value _, _, _⟩ => 1
  | _ => 2

/-- the effect of an operation: the heap behind it, its result -/
def Ef (P : Program) (id : Nat) (op : Op) (t : Nat → AV) (h h' : Heap) (r : AV) : Prop :=
  if sort op = 2 then (match op with
    | .store ty x y => storeA P h ty (evA t x) (evA t y) = some h' ∧ r = .und
    | .call ⟨.builtin .append, args, tys⟩ => ∃ x y ty, args.toList = [x, y] ∧ tys.toList = [ty, ty] ∧ appendA P h id ty (evA t x) (evA t y) = some (h', r)
    | _ => False)
  else ∃ news, Rd P id op t h r news ∧ news.length ≤ 4 ∧ h' = updL h id news

theorem step_ef {id : Nat} {d : Option Tmp} {op : Op} {K : St → Prop} {i j} {st : St} (h : stepA P true id d op K i j st) : ∃ h' r, Ef P id op st.t st.h h' r ∧ K (St.put ⟨st.t, h', st.n⟩ d r) := by
  have vl : sort op ≠ 2 → (∀ r, (valA P st.t st.h op = some r) → Rd P id op st.t st.h r []) → bindO (valA P st.t st.h op) (fun r => K (st.put d r)) ⟨⟩ → ∃ h' r, Ef P id op st.t st.h h' r ∧ K (St.put ⟨st.t, h', st.n⟩ d r) := by
    rintro hs hr ⟨r, h1, h2⟩
    exact ⟨st.h, r, by unfold Ef; rw [if_neg hs]; exact ⟨[], hr r h1, by simp, rfl⟩, h2⟩
  have nw : sort op ≠ 2 → (∀ e r, newA P st.t id op = some (e, r) → Rd P id op st.t st.h r [e]) → bindO (newA P st.t id op) (fun ev => K (St.put ⟨st.t, upd st.h id (some ev.1), st.n⟩ d ev.2)) ⟨⟩ → ∃ h' r, Ef P id op st.t st.h h' r ∧ K (St.put ⟨st.t, h', st.n⟩ d r) := by
    rintro hs hr ⟨⟨e, r⟩, h1, h2⟩
    exact ⟨_, r, by unfold Ef; rw [if_neg hs]; exact ⟨[e], hr e r h1, by simp, rfl⟩, h2⟩
  cases op with
  | store ty x y =>
    obtain ⟨h', h1, h2⟩ := h
    exact ⟨h', .und, by unfold Ef; rw [if_pos (by simp [sort])]; exact ⟨h1, rfl⟩, h2⟩
  | alloc e => exact nw (by simp [sort]) (fun e r h => ⟨e, h, rfl⟩) h
  | box e x => exact nw (by simp [sort]) (fun e r h => ⟨e, h, rfl⟩) h
  | buildSlice a b c => exact nw (by simp [sort]) (fun e r h => ⟨e, h, rfl⟩) h
  | makeSlice a b c => exact nw (by simp [sort]) (fun e r h => ⟨e, h, rfl⟩) h
  | call c =>
    obtain ⟨callee, args, tys⟩ := c
    cases callee with
    | value g =>
      obtain ⟨⟨f, caps⟩, h1, h2⟩ := h
      rcases h2 with ⟨r, news, args', a1, a2, a3, a4, a5⟩ | ⟨a1, _⟩
      · exact ⟨_, _, by unfold Ef; rw [if_neg (by simp [sort])]; exact ⟨news, ⟨f, caps, r, args', h1, a1, a2, a3, rfl⟩, a4, rfl⟩, a5⟩
      · cases a1
    | invoke r m => obtain ⟨x, h1, h2⟩ := h; cases h1
    | builtin b =>
      cases b with
      | append =>
        change (match args.toList, tys.toList with | [x, y], [ty, ty'] => if ty' ≠ ty then False else bindO (appendA P st.h id ty (evA st.t x) (evA st.t y)) (fun hv => K (St.put ⟨st.t, hv.1, st.n⟩ d hv.2)) ⟨⟩ | _, _ => False) at h
        split at h
        · rename_i x y ty ty' h1 h2
          split at h
          · exact h.elim
          · rename_i hne
            have e : ty' = ty := Classical.not_not.1 hne
            subst e
            obtain ⟨⟨h', r⟩, g1, g2⟩ := h
            refine ⟨h', r, ?_, g2⟩
            unfold Ef
            rw [if_pos (by simp [sort])]
            exact ⟨x, y, ty', h1, h2, g1⟩
        · exact h.elim
      | len => exact vl (by simp [sort]) (fun r h => ⟨h, rfl⟩) h
      | min => exact vl (by simp [sort]) (fun r h => ⟨h, rfl⟩) h
      | _ => obtain ⟨x, h1, h2⟩ := h; cases h1
  | move x => exact vl (by simp [sort]) (fun r h => ⟨h, rfl⟩) h
  | assign x => exact vl (by simp [sort]) (fun r h => ⟨h, rfl⟩) h
  | pick a b c => exact vl (by simp [sort]) (fun r h => ⟨h, rfl⟩) h
  | load a b => exact vl (by simp [sort]) (fun r h => ⟨h, rfl⟩) h
  | nilCheck a => exact vl (by simp [sort]) (fun r h => ⟨h, rfl⟩) h
  | binOp a b c d e => exact vl (by simp [sort]) (fun r h => ⟨h, rfl⟩) h
  | unOp a b c => exact vl (by simp [sort]) (fun r h => ⟨h, rfl⟩) h
  | extract a b => exact vl (by simp [sort]) (fun r h => ⟨h, rfl⟩) h
  | fieldAddr a b c => exact vl (by simp [sort]) (fun r h => ⟨h, rfl⟩) h
  | indexAddr a b c => exact vl (by simp [sort]) (fun r h => ⟨h, rfl⟩) h
  | index a b c => exact vl (by simp [sort]) (fun r h => ⟨h, rfl⟩) h
  | slice a b c d e => exact vl (by simp [sort]) (fun r h => ⟨h, rfl⟩) h
  | build a b => exact vl (by simp [sort]) (fun r h => ⟨h, rfl⟩) h
  | makeFunc a b c => exact vl (by simp [sort]) (fun r h => ⟨h, rfl⟩) h
  | _ => obtain ⟨x, h1, h2⟩ := h; cases h1

theorem ef_step {id : Nat} {d : Option Tmp} {op : Op} {K : St → Prop} {st : St} {h' : Heap} {r : AV} (he : Ef P id op st.t st.h h' r) (hk : K (St.put ⟨st.t, h', st.n⟩ d r)) : stepA P true id d op K ⟨⟩ ⟨⟩ st := by
  unfold Ef at he
  split at he
  · split at he
    · obtain ⟨h1, rfl⟩ := he
      exact ⟨h', h1, hk⟩
    · rename_i args tys _
      obtain ⟨x, y, ty, h1, h2, h3⟩ := he
      change (match args.toList, tys.toList with | [x, y], [ty, ty'] => if ty' ≠ ty then False else bindO (appendA P st.h id ty (evA st.t x) (evA st.t y)) (fun hv => K (St.put ⟨st.t, hv.1, st.n⟩ d hv.2)) ⟨⟩ | _, _ => False)
      rw [h1, h2]
      simp only [ne_eq, not_true_eq_false, if_false]
      exact ⟨_, h3, hk⟩
    · exact he.elim
  · rename_i hs
    obtain ⟨news, hr, hl, rfl⟩ := he
    cases op with
    | store ty x y => simp [sort] at hs
    | alloc e => obtain ⟨e, h1, rfl⟩ := hr; exact ⟨_, h1, hk⟩
    | box e x => obtain ⟨e, h1, rfl⟩ := hr; exact ⟨_, h1, hk⟩
    | buildSlice a b c => obtain ⟨e, h1, rfl⟩ := hr; exact ⟨_, h1, hk⟩
    | makeSlice a b c => obtain ⟨e, h1, rfl⟩ := hr; exact ⟨_, h1, hk⟩
    | call c =>
      obtain ⟨callee, args, tys⟩ := c
      cases callee with
      | value g =>
        obtain ⟨f, caps, r0, args', a0, a1, a2, a3, rfl⟩ := hr
        exact ⟨(f, caps), a0, Or.inl ⟨r0, news, args', a1, a2, a3, hl, hk⟩⟩
      | invoke r m => simp [sort] at hs
      | builtin b =>
        cases b with
        | len => obtain ⟨h1, rfl⟩ := hr; exact ⟨_, h1, hk⟩
        | min => obtain ⟨h1, rfl⟩ := hr; exact ⟨_, h1, hk⟩
        | _ => simp [sort] at hs
    | move x => obtain ⟨h1, rfl⟩ := hr; exact ⟨_, h1, hk⟩
    | assign x => obtain ⟨h1, rfl⟩ := hr; exact ⟨_, h1, hk⟩
    | pick a b c => obtain ⟨h1, rfl⟩ := hr; exact ⟨_, h1, hk⟩
    | load a b => obtain ⟨h1, rfl⟩ := hr; exact ⟨_, h1, hk⟩
    | nilCheck a => obtain ⟨h1, rfl⟩ := hr; exact ⟨_, h1, hk⟩
    | binOp a b c d e => obtain ⟨h1, rfl⟩ := hr; exact ⟨_, h1, hk⟩
    | unOp a b c => obtain ⟨h1, rfl⟩ := hr; exact ⟨_, h1, hk⟩
    | extract a b => obtain ⟨h1, rfl⟩ := hr; exact ⟨_, h1, hk⟩
    | fieldAddr a b c => obtain ⟨h1, rfl⟩ := hr; exact ⟨_, h1, hk⟩
    | indexAddr a b c => obtain ⟨h1, rfl⟩ := hr; exact ⟨_, h1, hk⟩
    | index a b c => obtain ⟨h1, rfl⟩ := hr; exact ⟨_, h1, hk⟩
    | slice a b c d e => obtain ⟨h1, rfl⟩ := hr; exact ⟨_, h1, hk⟩
    | build a b => obtain ⟨h1, rfl⟩ := hr; exact ⟨_, h1, hk⟩
    | makeFunc a b c => obtain ⟨h1, rfl⟩ := hr; exact ⟨_, h1, hk⟩
    | _ => simp [sort] at hs

/-! P1: it leans on its operands alone -/
theorem valA_bin {t t' : Nat → AV} {h h' : Heap} {a : BinOp} {b : TypeId} {x y : Operand} {c : TypeId} (hx : evA t x = evA t' x) (hy : evA t y = evA t' y) : valA P t h (.binOp a b x y c) = valA P t' h' (.binOp a b x y c) := by
  have old : binA P a b (evA t x) (evA t y) = binA P a b (evA t' x) (evA t' y) := by rw [hx, hy]
  have new : (match tkOf P b with | .slice _ => (nilTest (evA t x)).map fun b => AV.at (.bool b) | _ => none) = (match tkOf P b with | .slice _ => (nilTest (evA t' x)).map fun b => AV.at (.bool b) | _ => none) := by rw [hx]
  cases a <;> try exact old
  cases y with
  | const v =>
    cases v <;> try exact old
    rename_i ad k c
    cases ad <;> try exact old
    cases k <;> try exact old
    cases c <;> try exact old
    exact new
  | _ => exact old

theorem valA_congr {t t' : Nat → AV} {h : Heap} {op : Op} (he : ∀ x, x ∈ op.operands → evA t x = evA t' x) : valA P t h op = valA P t' h op := by
  have mp : ∀ (y : Option Operand), (∀ q, y = some q → evA t q = evA t' q) → y.map (evA t) = y.map (evA t') := by
    intro y hy; cases y with
    | none => rfl
    | some q => simp only [Option.map_some, hy q rfl]
  have pr : ∀ (parts : Array (Nat × Operand)), (∀ p, p ∈ parts.toList → evA t p.2 = evA t' p.2) → (parts.toList.map fun p => (p.1, evA t p.2)) = (parts.toList.map fun p => (p.1, evA t' p.2)) := by
    intro parts hp
    exact List.map_congr_left fun p hm => by rw [hp p hm]
  cases op with
  | call c =>
    obtain ⟨callee, args, tys⟩ := c
    cases callee with
    | builtin b =>
      cases b with
      | len =>
        simp only [valA]
        split
        · rename_i x ty hx hy
          rw [he x (by simp only [Op.operands, Call.operands]; have : x ∈ args.toList := by rw [hx]; simp
                       simpa using this)]
        · rfl
      | min =>
        simp only [valA]
        split
        · rename_i x y hx
          rw [he x (by simp only [Op.operands, Call.operands]; have : x ∈ args.toList := by rw [hx]; simp
                       simpa using this), he y (by simp only [Op.operands, Call.operands]; have : y ∈ args.toList := by rw [hx]; simp
                                                   simpa using this)]
        · rfl
      | _ => rfl
    | _ => rfl
  | slice a b c d e =>
    simp only [valA]
    rw [he b (by simp [Op.operands]), mp c (fun q e => he q (by subst e; simp [Op.operands])), mp d (fun q e => he q (by subst e; simp [Op.operands])), mp e (fun q e => he q (by subst e; simp [Op.operands]))]
  | build a b =>
    simp only [valA]
    rw [pr b (fun p hp => he _ (by simp only [Op.operands, List.mem_toArray, List.mem_map]; exact ⟨p, hp, rfl⟩))]
  | makeFunc f a b =>
    cases f with
    | func f =>
      simp only [valA]
      have : b.toList.map (evA t) = b.toList.map (evA t') := List.map_congr_left fun x hx => he x (by simp [Op.operands]; exact Or.inr (by simpa using hx))
      rw [this]
    | _ => rfl
  | pick a b c => simp only [valA]; rw [he a (by simp [Op.operands]), he b (by simp [Op.operands]), he c (by simp [Op.operands])]
  | move x => simp only [valA]; rw [he x (by simp [Op.operands])]
  | assign x => simp only [valA]; rw [he x (by simp [Op.operands])]
  | load a x => simp only [valA]; rw [he x (by simp [Op.operands])]
  | nilCheck x => simp only [valA]; rw [he x (by simp [Op.operands])]
  | binOp a b x y c => exact valA_bin (he x (by simp [Op.operands])) (he y (by simp [Op.operands]))
  | unOp a b x => simp only [valA]; rw [he x (by simp [Op.operands])]
  | extract x b => simp only [valA]; rw [he x (by simp [Op.operands])]
  | fieldAddr a x b => simp only [valA]; rw [he x (by simp [Op.operands])]
  | indexAddr a x y => simp only [valA]; rw [he x (by simp [Op.operands]), he y (by simp [Op.operands])]
  | index a x y => simp only [valA]; rw [he x (by simp [Op.operands]), he y (by simp [Op.operands])]
  | _ => rfl

theorem newA_congr {t t' : Nat → AV} {id : Nat} {op : Op} (he : ∀ x, x ∈ op.operands → evA t x = evA t' x) : newA P t id op = newA P t' id op := by
  have pr : ∀ (parts : Array (Nat × Operand)), (∀ p, p ∈ parts.toList → evA t p.2 = evA t' p.2) → (parts.toList.map fun p => (p.1, evA t p.2)) = (parts.toList.map fun p => (p.1, evA t' p.2)) := by
    intro parts hp
    exact List.map_congr_left fun p hm => by rw [hp p hm]
  cases op with
  | box e x => simp only [newA]; rw [he x (by simp [Op.operands])]
  | buildSlice a b c =>
    simp only [newA]
    rw [pr c (fun p hp => he _ (by simp only [Op.operands, List.mem_toArray, List.mem_map]; exact ⟨p, hp, rfl⟩))]
  | makeSlice a x y => simp only [newA]; rw [he x (by simp [Op.operands]), he y (by simp [Op.operands])]
  | _ => rfl

theorem Rd.congr {t t' : Nat → AV} {h : Heap} {id : Nat} {op : Op} {r : AV} {news : List HE} (he : ∀ x, x ∈ op.operands → evA t x = evA t' x) (hr : Rd P id op t h r news) : Rd P id op t' h r news := by
  cases op with
  | alloc e => exact hr
  | box e x => obtain ⟨e, h1, h2⟩ := hr; exact ⟨e, (newA_congr he).symm.trans h1, h2⟩
  | buildSlice a b c => obtain ⟨e, h1, h2⟩ := hr; exact ⟨e, (newA_congr he).symm.trans h1, h2⟩
  | makeSlice a b c => obtain ⟨e, h1, h2⟩ := hr; exact ⟨e, (newA_congr he).symm.trans h1, h2⟩
  | call c =>
    obtain ⟨callee, args, tys⟩ := c
    cases callee with
    | value g =>
      obtain ⟨f, caps, r0, args', a0, a1, a2, a3, a4⟩ := hr
      have e1 : evA t g = evA t' g := he g (by simp [Op.operands, Call.operands])
      have e2 : args.toList.map (evA t) = args.toList.map (evA t') := List.map_congr_left fun x hx => he x (by simp [Op.operands, Call.operands]; exact Or.inr (by simpa using hx))
      rw [e1] at a0
      rw [e2] at a1 a3
      exact ⟨f, caps, r0, args', a0, a1, a2, a3, a4⟩
    | _ => obtain ⟨h1, h2⟩ := hr; exact ⟨(valA_congr he).symm.trans h1, h2⟩
  | _ => obtain ⟨h1, h2⟩ := hr; exact ⟨(valA_congr he).symm.trans h1, h2⟩

/-! P0: what leans on no memory -/
theorem Rd.free {t : Nat → AV} {h h2 : Heap} {id : Nat} {op : Op} {r : AV} {news : List HE} (hs : sort op = 0) (hr : Rd P id op t h r news) : Rd P id op t h2 r news ∧ news = [] := by
  cases op with
  | call c =>
    obtain ⟨callee, args, tys⟩ := c
    cases callee with
    | value g => simp [sort] at hs
    | invoke r m => simp [sort] at hs
    | builtin b => cases b <;> first | exact ⟨hr, hr.2⟩ | (simp [sort] at hs; done)
  | makeFunc f a b => cases f <;> exact ⟨hr, hr.2⟩
  | binOp a b x y c => exact ⟨⟨(valA_bin rfl rfl).trans hr.1, hr.2⟩, hr.2⟩
  | _ => first | exact ⟨hr, hr.2⟩ | (simp [sort] at hs; done)

/-! P2: what is read stays when rows are added -/
def HLe (h h' : Heap) : Prop := ∀ i e, h i = some e → h' i = some e

theorem mapM_some {α β : Type} {f g : α → Option β} : ∀ {xs : List α} {ys : List β}, xs.mapM f = some ys → (∀ x y, x ∈ xs → f x = some y → g x = some y) → xs.mapM g = some ys
  | [], ys, h, _ => by simp at h; subst h; simp
  | x :: xs, ys, h, hg => by
    simp only [List.mapM_cons, Option.bind_eq_bind, Option.pure_def] at h ⊢
    cases hx : f x with
    | none => simp [hx] at h
    | some b =>
      cases hr : xs.mapM f with
      | none => simp [hx, hr] at h
      | some rest =>
        simp [hx, hr] at h
        subst h
        simp [hg x b (by simp) hx, mapM_some hr (fun x y hm => hg x y (by simp [hm]))]

theorem loadA_mono {h h' : Heap} (hl : HLe h h') {t : TypeId} {x r : AV} (he : loadA P h t x = some r) : loadA P h' t x = some r := by
  unfold loadA at he ⊢
  split at he
  · cases he
  · rename_i ti hti
    split at he
    · exact he
    · split at he
      · rename_i e hen
        simp only [hti, hl _ _ hen]
        exact he
      · cases he
    · cases he

theorem indexAddrA_mono {h h' : Heap} (hl : HLe h h') {t : TypeId} {x ix r : AV} (he : indexAddrA P h t x ix = some r) : indexAddrA P h' t x ix = some r := by
  unfold indexAddrA at he ⊢
  split at he
  · cases he
  · rename_i k hk
    split at he
    · rename_i el htk
      split at he
      · cases he
      · rename_i ti hti
        split at he
        · simpa only [htk, hti] using he
        · split at he
          · rename_i e hen
            simp only [htk, hti, hl _ _ hen]
            exact he
          · cases he
        · cases he
    · exact he
    · cases he

theorem sliceA_mono {h h' : Heap} (hl : HLe h h') {sz : Nat} {x r : AV} {lo hi mx : Option AV} (he : sliceA h sz x lo hi mx = some r) : sliceA h' sz x lo hi mx = some r := by
  unfold sliceA at he ⊢
  split at he
  · exact he
  · split at he
    · exact he
    · exact he
    · split at he
      · rename_i l m e h1 h2 hen
        simp only [h1, h2, hl _ _ hen]
        exact he
      · cases he
    · cases he

theorem leafP_mono {h h' : Heap} (hl : HLe h h') {av : List Nat} : ∀ {d : Nat} {a a' : AV}, leafP h av d a = some a' → leafP h' av d a = some a'
  | d, .at v, a', he => by cases d <;> exact he
  | d, .nl, a', he => by cases d <;> exact he
  | d, .lst _ _ _, a', he => by cases d <;> exact he
  | 0, .own _ _ _, a', he => he
  | d + 1, .own i o n, a', he => by
    simp only [leafP] at he ⊢
    split at he
    · cases he
    · rename_i hav
      rw [if_neg hav]
      split at he
      · rename_i e hen
        simp only [hl _ _ hen]
        split at he
        · rename_i hle
          rw [if_pos hle]
          cases hm : ((e.rows.drop o).take n).mapM (fun (r : List AV) => r.mapM (leafP h av d)) with
          | none => rw [hm] at he; cases he
          | some rows =>
            rw [hm] at he
            rw [mapM_some hm (fun r r' _ hr => mapM_some hr (fun c c' _ hc => leafP_mono hl hc))]
            exact he
        · cases he
      · cases he
  | d, .und, a', he => by cases d <;> exact he
  | d, .nilv, a', he => by cases d <;> exact he
  | d, .nn, a', he => by cases d <;> exact he
  | d, .rp _, a', he => by cases d <;> exact he
  | d, .ptr _ _ _ _, a', he => by cases d <;> exact he
  | d, .agg _, a', he => by cases d <;> exact he
  | d, .tup _, a', he => by cases d <;> exact he
  | d, .fn _ _, a', he => by cases d <;> exact he

theorem leafV_mono {h h' : Heap} (hl : HLe h h') {a a' : AV} (he : leafV h a = some a') : leafV h' a = some a' := by
  unfold leafV at he ⊢
  split at he
  · exact he
  · exact leafP_mono hl he
theorem viewV_mono {h h' : Heap} (hl : HLe h h') {a a' : AV} (he : viewV h a = some a') : viewV h' a = some a' := by
  unfold viewV at he ⊢
  split at he
  · rename_i l
    cases hm : l.mapM (leafV h) with
    | none => rw [hm] at he; cases he
    | some l' =>
      rw [hm] at he
      rw [mapM_some hm (fun c c' _ hc => leafV_mono hl hc)]
      exact he
  · exact leafV_mono hl he

theorem Rd.mono {t : Nat → AV} {h h' : Heap} (hl : HLe h h') {id : Nat} {op : Op} {r : AV} {news : List HE} (hs : sort op ≠ 2) (hr : Rd P id op t h r news) : Rd P id op t h' r news := by
  cases op with
  | alloc e => exact hr
  | box e x => exact hr
  | buildSlice a b c => exact hr
  | makeSlice a b c => exact hr
  | load a x => exact ⟨loadA_mono hl hr.1, hr.2⟩
  | indexAddr a x y => exact ⟨indexAddrA_mono hl hr.1, hr.2⟩
  | slice a x b c d =>
    refine ⟨?_, hr.2⟩
    have h1 := hr.1
    simp only [valA] at h1 ⊢
    split at h1
    · cases hti : tiOf P (by assumption) with
      | none => rw [hti] at h1; cases h1
      | some ti =>
        rw [hti] at h1
        simp only [Option.bind_some] at h1 ⊢
        exact sliceA_mono hl h1
    · cases h1
  | call c =>
    obtain ⟨callee, args, tys⟩ := c
    cases callee with
    | value g =>
      obtain ⟨f, caps, r0, args', a0, a1, a2, a3, a4⟩ := hr
      exact ⟨f, caps, r0, args', a0, mapM_some a1 (fun c c' _ hc => viewV_mono hl hc), a2, a3, a4⟩
    | invoke r m => simp [sort] at hs
    | builtin b => cases b <;> first | exact hr | (simp [sort] at hs; done)
  | makeFunc f a b => cases f <;> exact hr
  | binOp a b x y c => exact ⟨(valA_bin rfl rfl).trans hr.1, hr.2⟩
  | _ => first | exact hr | (simp [sort] at hs; done)

/-! P3: what is read leans on no row that was not there -/
section restrict
variable {B : Nat} {W0 w : World} {ρ : Nat → Option Place} {ok : Nat → Prop} {h h' : Heap} {n : Nat}

theorem own_there {i o m : Nat} {v : Value} (hv : V B ρ ok w (.own i o m) v) : ρ i ≠ none := by
  cases hv with
  | own0 hp => rw [hp]; simp
  | own hp _ _ => rw [hp]; simp
theorem ptr_there {i s r o : Nat} {v : Value} (hv : V B ρ ok w (.ptr i s r o) v) : ρ i ≠ none := by
  cases hv with | ptr hp => rw [hp]; simp

theorem loadA_less (hl : ∀ i, ρ i ≠ none → h' i = h i) {t : TypeId} {x r : AV} {v : Value} (hv : V B ρ ok w x v) (he : loadA P h' t x = some r) : loadA P h t x = some r := by
  unfold loadA at he ⊢
  split at he
  · cases he
  · rename_i ti hti
    split at he
    · exact he
    · rw [hl _ (ptr_there hv)] at he
      simpa only [hti] using he
    · cases he
theorem indexAddrA_less (hl : ∀ i, ρ i ≠ none → h' i = h i) {t : TypeId} {x ix r : AV} {v : Value} (hv : V B ρ ok w x v) (he : indexAddrA P h' t x ix = some r) : indexAddrA P h t x ix = some r := by
  cases x with
  | own i o m =>
    unfold indexAddrA at he ⊢
    simp only [hl i (own_there hv)] at he
    exact he
  | _ => exact he
theorem sliceA_less (hl : ∀ i, ρ i ≠ none → h' i = h i) {sz : Nat} {x r : AV} {lo hi mx : Option AV} {v : Value} (hv : V B ρ ok w x v) (he : sliceA h' sz x lo hi mx = some r) : sliceA h sz x lo hi mx = some r := by
  cases x with
  | own i o m =>
    unfold sliceA at he ⊢
    simp only [hl i (own_there hv)] at he
    exact he
  | _ => exact he
theorem leafP_less (H : HRel B W0 ρ ok h n w) (hl : ∀ i, ρ i ≠ none → h' i = h i) {av : List Nat} : ∀ {d : Nat} {a a' : AV} {v : Value}, V B ρ ok w a v → leafP h' av d a = some a' → leafP h av d a = some a'
  | d, .at v, a', _, _, he => by cases d <;> exact he
  | d, .nl, a', _, _, he => by cases d <;> exact he
  | d, .lst _ _ _, a', _, _, he => by cases d <;> exact he
  | 0, .own _ _ _, a', _, _, he => he
  | d + 1, .own i o m, a', v, hv, he => by
    simp only [leafP] at he ⊢
    rw [hl _ (own_there hv)] at he
    split at he
    · cases he
    · rename_i hav
      rw [if_neg hav]
      split at he
      · rename_i e hen
        split at he
        · rename_i hle
          rw [if_pos hle]
          cases hm : ((e.rows.drop o).take m).mapM (fun (r : List AV) => r.mapM (leafP h' av d)) with
          | none => rw [hm] at he; cases he
          | some rows =>
            rw [hm] at he
            rw [mapM_some hm (fun r r' hrm hr => mapM_some hr (fun c c' hcm hc => by
              have hmem : c ∈ e.rows.flatten := List.mem_flatten.2 ⟨r, List.mem_of_mem_drop (List.mem_of_mem_take hrm), hcm⟩
              rcases H.row i e hen with ⟨_, q⟩ | ⟨b, cap, cur, q1, q2, q3, q4, q5, q6, q7, q8, q9, q10⟩
              · rw [q] at hmem; simp at hmem
              · obtain ⟨j, hj⟩ := List.mem_iff_getElem?.1 hmem
                obtain ⟨u, hu⟩ : ∃ u, (cur.toList.take (e.rows.length * e.s))[j]? = some u := ⟨_, List.getElem?_eq_getElem (by have := (List.getElem?_eq_some_iff.1 hj).1; have := q10.1; omega)⟩
                exact leafP_less H hl (q10.2.2 j c u hj hu) hc))]
            exact he
        · cases he
      · cases he
  | d, .und, a', _, _, he => by cases d <;> exact he
  | d, .nilv, a', _, _, he => by cases d <;> exact he
  | d, .nn, a', _, _, he => by cases d <;> exact he
  | d, .rp _, a', _, _, he => by cases d <;> exact he
  | d, .ptr _ _ _ _, a', _, _, he => by cases d <;> exact he
  | d, .agg _, a', _, _, he => by cases d <;> exact he
  | d, .tup _, a', _, _, he => by cases d <;> exact he
  | d, .fn _ _, a', _, _, he => by cases d <;> exact he

theorem leafV_less (H : HRel B W0 ρ ok h n w) (hl : ∀ i, ρ i ≠ none → h' i = h i) {a a' : AV} {v : Value} (hv : V B ρ ok w a v) (he : leafV h' a = some a') : leafV h a = some a' := by
  unfold leafV at he ⊢
  split at he
  · exact he
  · exact leafP_less H hl hv he
theorem viewV_less (H : HRel B W0 ρ ok h n w) (hl : ∀ i, ρ i ≠ none → h' i = h i) {a a' : AV} {v : Value} (hv : V B ρ ok w a v) (he : viewV h' a = some a') : viewV h a = some a' := by
  unfold viewV at he ⊢
  split at he
  · rename_i l
    cases hm : l.mapM (leafV h') with
    | none => rw [hm] at he; cases he
    | some l' =>
      rw [hm] at he
      cases hv with
      | agg h1 h2 h3 =>
        rw [mapM_some hm (fun c c' hcm hc => by
          obtain ⟨j, hj⟩ := List.mem_iff_getElem?.1 hcm
          obtain ⟨u, hu⟩ : ∃ u, (_ : List Value)[j]? = some u := ⟨_, List.getElem?_eq_getElem (by rw [← h1]; exact (List.getElem?_eq_some_iff.1 hj).1)⟩
          exact leafV_less H hl (h3 j c u hj hu) hc)]
        exact he
  · exact leafV_less H hl hv he

theorem Rd.less {nt : Nat} {st : St} {a : Act} (R : Rl B W0 ρ ok nt st a w) (hl : ∀ i, ρ i ≠ none → h' i = st.h i) {id : Nat} {op : Op} {r : AV} {news : List HE} (hok : opOk op = true) (hs : sort op ≠ 2) (hr : Rd P id op st.t h' r news) : Rd P id op st.t st.h r news := by
  have ev : ∀ x, okOpd x = true → V B ρ ok w (evA st.t x) (a.eval x) := fun x hx => ev_sound R hx
  cases op with
  | alloc e => exact hr
  | box e x => exact hr
  | buildSlice a b c => exact hr
  | makeSlice a b c => exact hr
  | load a x => exact ⟨loadA_less hl (ev x (opd hok (by simp [Op.operands]))) hr.1, hr.2⟩
  | indexAddr a x y => exact ⟨indexAddrA_less hl (ev x (opd hok (by simp [Op.operands]))) hr.1, hr.2⟩
  | slice a x b c d =>
    refine ⟨?_, hr.2⟩
    have h1 := hr.1
    simp only [valA] at h1 ⊢
    split at h1
    · cases hti : tiOf P (by assumption) with
      | none => rw [hti] at h1; cases h1
      | some ti =>
        rw [hti] at h1
        simp only [Option.bind_some] at h1 ⊢
        exact sliceA_less hl (ev x (opd hok (by simp [Op.operands]))) h1
    · cases h1
  | call c =>
    obtain ⟨callee, args, tys⟩ := c
    cases callee with
    | value g =>
      obtain ⟨f, caps, r0, args', a0, a1, a2, a3, a4⟩ := hr
      refine ⟨f, caps, r0, args', a0, mapM_some a1 (fun c c' hcm hc => ?_), a2, a3, a4⟩
      rcases List.mem_append.1 hcm with hm | hm
      · obtain ⟨x, hx, rfl⟩ := List.mem_map.1 hm
        exact viewV_less R.heap hl (ev x (opd hok (by simp [Op.operands, Call.operands]; exact Or.inr (by simpa using hx)))) hc
      · have hg := ev g (opd hok (by simp [Op.operands, Call.operands]))
        have hge : evA st.t g = .fn f caps := by
          unfold fnOf at a0
          split at a0
          · rename_i f' c' heq; simp only [Option.some.injEq, Prod.mk.injEq] at a0; rw [heq, a0.1, a0.2]
          · cases a0
        rw [hge] at hg
        generalize a.eval g = gv at hg
        cases hg with
        | fn h1 h2 =>
          obtain ⟨j, hj⟩ := List.mem_iff_getElem?.1 hm
          obtain ⟨u, hu⟩ : ∃ u, (_ : List Value)[j]? = some u := ⟨_, List.getElem?_eq_getElem (by rw [← h1]; exact (List.getElem?_eq_some_iff.1 hj).1)⟩
          exact viewV_less R.heap hl (h2 j c u hj hu) hc
    | invoke r m => simp [sort] at hs
    | builtin b => cases b <;> first | exact hr | (simp [sort] at hs; done)
  | makeFunc f a b => cases f <;> exact hr
  | binOp a b x y c => exact ⟨(valA_bin rfl rfl).trans hr.1, hr.2⟩
  | _ => first | exact hr | (simp [sort] at hs; done)
end restrict

end
end Go.Proofs.Ytdjdjnmccphbjaa.E
