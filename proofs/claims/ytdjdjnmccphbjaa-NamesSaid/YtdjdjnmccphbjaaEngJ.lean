/- EngJ: what is handed to a call, and what comes back. -/
import Derived.Test.YtdjdjnmccphbjaaEngI
namespace Go.Proofs.Ytdjdjnmccphbjaa.E
open Go.RowKit

section
variable {P : Program} {B : Nat} {W0 : World} {ρ : Nat → Option Place} {ok : Nat → Prop} {w : World} {h : Heap} {n : Nat}

theorem mapM_length {α β : Type} {f : α → Option β} : ∀ {xs : List α} {ys : List β}, xs.mapM f = some ys → ys.length = xs.length
  | [], ys, h => by simp at h; subst h; rfl
  | x :: xs, ys, h => by
    simp only [List.mapM_cons, Option.bind_eq_bind, Option.pure_def] at h
    cases hx : f x with
    | none => simp [hx] at h
    | some b =>
      cases hr : xs.mapM f with
      | none => simp [hx, hr] at h
      | some rest =>
        simp [hx, hr] at h
        subst h
        simp [mapM_length hr]
theorem mapM_append {α β : Type} {f : α → Option β} : ∀ {xs ys : List α} {a b : List β}, xs.mapM f = some a → ys.mapM f = some b → (xs ++ ys).mapM f = some (a ++ b)
  | [], ys, a, b, h, g => by simp at h; subst h; simpa using g
  | x :: xs, ys, a, b, h, g => by
    simp only [List.mapM_cons, Option.bind_eq_bind, Option.pure_def] at h
    cases hx : f x with
    | none => simp [hx] at h
    | some c =>
      cases hr : xs.mapM f with
      | none => simp [hx, hr] at h
      | some rest =>
        simp [hx, hr] at h
        subst h
        simp [List.mapM_cons, hx, mapM_append hr g]
theorem mapM_flatten {α β : Type} {f : α → Option β} : ∀ {rows : List (List α)} {rows' : List (List β)}, (rows.mapM fun r => r.mapM f) = some rows' → rows.flatten.mapM f = some rows'.flatten
  | [], rows', h => by simp at h; subst h; simp
  | r :: rows, rows', h => by
    simp only [List.mapM_cons, Option.bind_eq_bind, Option.pure_def] at h
    cases hx : r.mapM f with
    | none => simp [hx] at h
    | some c =>
      cases hr : rows.mapM (fun r => r.mapM f) with
      | none => simp [hx, hr] at h
      | some rest =>
        simp [hx, hr] at h
        subst h
        simp only [List.flatten_cons]
        exact mapM_append hx (mapM_flatten hr)

/-- a region of memory that may be shown: what is stable, and rows of one's own that are not of 'av' -/
def Shown (ρ : Nat → Option Place) (ok : Nat → Prop) (h : Heap) (av : List Nat) (b : Nat) : Prop := ok b ∨ ∃ i e c s, h i = some e ∧ i ∉ av ∧ ρ i = some (some (b, c, s))

/-- a row of one's own, shown -/
theorem own_show (H : HRel B W0 ρ ok h n w) {av : List Nat} {d i o m : Nat} {e : HE} {v : Value} {rows' : List (List AV)} {G : Nat → Prop} (hen : h i = some e) (hle : o + m ≤ e.rows.length)
    (hm : ((e.rows.drop o).take m).mapM (fun (r : List AV) => r.mapM (leafP h av d)) = some rows') (hv : V B ρ ok w (.own i o m) v) (hG : ∀ b c s, ρ i = some (some (b, c, s)) → G b)
    (hcell : ∀ x c' u, x ∈ e.rows.flatten → leafP h av d x = some c' → V B ρ ok w x u → PV G w c' u) : PV G w (.lst false e.s rows') v := by
  have hlen := mapM_length hm
  have hlen2 : ((e.rows.drop o).take m).length = m := by simp; omega
  rw [hlen2] at hlen
  have hfm := mapM_flatten hm
  cases hv with
  | own0 hp =>
    have : rows' = [] := List.eq_nil_of_length_eq_zero hlen
    subst this
    exact PV.lst (us := []) (by simp) (by simp) (by simp) (fun _ => ⟨rfl, rfl⟩) (by simp) (by simp) (fun _ _ hn => absurd rfl hn) (by simp)
  | own hp q1 q2 =>
    rename_i b cap s
    rcases H.row i e hen with ⟨q, _⟩ | ⟨b', cap', cur, p1, p2, p3, p4, p5, p6, p7, p8, p9, p10⟩
    · rw [hp] at q; cases q
    · rw [hp] at p1
      simp only [Option.some.injEq, Prod.mk.injEq] at p1
      obtain ⟨rfl, rfl, rfl⟩ := p1
      have hu : ∀ r, r ∈ (e.rows.drop o).take m → r.length = e.s := fun r hr => p9 r (List.mem_of_mem_drop (List.mem_of_mem_take hr))
      have hfl : ((e.rows.drop o).take m).flatten = (e.rows.flatten.drop (o * e.s)).take (m * e.s) := by
        rw [flatten_take (fun r hr => p9 r (List.mem_of_mem_drop hr)), flatten_drop p9]
      have hcr := (p10.drop (o * e.s)).take (m * e.s)
      rw [← hfl] at hcr
      have hr' : ∀ r, r ∈ rows' → r.length = e.s := by
        intro r hr
        obtain ⟨k, hk⟩ := List.mem_iff_getElem?.1 hr
        obtain ⟨x, hx, hfx⟩ := mapM_get hm k r hk
        rw [mapM_length hfx]
        exact hu x (List.mem_of_getElem? hx)
      rw [← hlen]
      refine PV.lst (us := ((cur.toList.take (e.rows.length * e.s)).drop (o * e.s)).take (m * e.s)) hr' (by omega) (by omega) (fun e => by cases e) ?_ hcr.2.1 (fun ad e1 _ => ?_) (fun j c u hc hu' => ?_)
      · rw [← hcr.1, mapM_length hfm]
      · cases e1
        refine ⟨rfl, hG _ _ _ hp, fun j u hj => ?_⟩
        rw [List.getElem?_take] at hj
        split at hj
        · rw [List.getElem?_drop, List.getElem?_take] at hj
          split at hj
          · simp only [World.cell?, p4]
            simpa using hj
          · cases hj
        · cases hj
      · obtain ⟨x, hx, hfx⟩ := mapM_get hfm j c hc
        refine hcell x c u ?_ hfx (hcr.2.2 j x u hx hu')
        have := List.mem_of_getElem? hx
        rw [hfl] at this
        exact List.mem_of_mem_drop (List.mem_of_mem_take this)

theorem leafP_sound (H : HRel B W0 ρ ok h n w) {av : List Nat} : ∀ {d : Nat} {a a' : AV} {v : Value}, leafP h av d a = some a' → V B ρ ok w a v → PV (Shown ρ ok h av) w a' v
  | d, .at v, a', u, he, hv => by
    cases d <;> (simp [leafP] at he; subst he; cases hv with | «at» h1 => exact .at h1)
  | d, .nl, a', u, he, hv => by
    cases d <;> (simp [leafP] at he; subst he; cases hv; exact .nl)
  | d, .lst fr s rows, a', u, he, hv => by
    cases d <;> (simp [leafP] at he; subst he; cases hv with | lst hp => exact hp.mono fun b hb => ⟨Or.inl hb.1, rfl⟩)
  | 0, .own i o m, a', u, he, hv => by simp [leafP] at he
  | d + 1, .own i o m, a', u, he, hv => by
    simp only [leafP] at he
    split at he
    · cases he
    · rename_i hav
      split at he
      · rename_i e hen
        split at he
        · rename_i hle
          cases hm : ((e.rows.drop o).take m).mapM (fun (r : List AV) => r.mapM (leafP h av d)) with
          | none => rw [hm] at he; cases he
          | some rows' =>
            rw [hm] at he
            cases he
            exact own_show H hen hle hm hv (fun b c s hb => Or.inr ⟨i, e, c, s, hen, by simpa using hav, hb⟩) (fun x c' u _ h1 h2 => leafP_sound H h1 h2)
        · cases he
      · cases he
  | d, .und, _, _, he, _ => by cases d <;> simp [leafP] at he
  | d, .nilv, _, _, he, _ => by cases d <;> simp [leafP] at he
  | d, .nn, _, _, he, _ => by cases d <;> simp [leafP] at he
  | d, .rp _, _, _, he, _ => by cases d <;> simp [leafP] at he
  | d, .ptr _ _ _ _, _, _, he, _ => by cases d <;> simp [leafP] at he
  | d, .agg _, _, _, he, _ => by cases d <;> simp [leafP] at he
  | d, .tup _, _, _, he, _ => by cases d <;> simp [leafP] at he
  | d, .fn _ _, _, _, he, _ => by cases d <;> simp [leafP] at he

theorem shown_lt (H : HRel B W0 ρ ok h n w) {av : List Nat} {b : Nat} (hb : Shown ρ ok h av b) : b < w.heap.size := by
  rcases hb with hb | ⟨i, e, c, s, h1, _, h2⟩
  · exact H.okb b hb
  · rcases H.row i e h1 with ⟨q, _⟩ | ⟨b', cap', cur, p1, p2, p3, p4, _⟩
    · rw [h2] at q; cases q
    · rw [h2] at p1
      simp only [Option.some.injEq, Prod.mk.injEq] at p1
      obtain ⟨rfl, rfl, rfl⟩ := p1
      exact lt_some p4

theorem leafV_sound (H : HRel B W0 ρ ok h n w) {a a' : AV} {v : Value} (he : leafV h a = some a') (hv : V B ρ ok w a v) : V 0 noPlace (fun b => b < w.heap.size) w a' v := by
  unfold leafV at he
  split at he
  · cases he
    cases hv with
    | fn h1 h2 => exact .fn h1 (by simp)
  · exact ((leafP_sound H he hv).mono fun b hb => ⟨shown_lt H hb, rfl⟩).V

theorem leafV_plain {a a' : AV} {v : Value} (he : leafV h a = some a') (hp : plainLeaf a = true) (hv : V B ρ ok w a v) : V 0 noPlace ok w a' v := by
  unfold leafV at he
  split at he
  · cases he
    cases hv with
    | fn h1 h2 => exact .fn h1 (by simp)
  · cases a <;> simp [plainLeaf] at hp <;> simp [leafP] at he
    · subst he; cases hv with | «at» h1 => exact .at h1
    · subst he; cases hv; exact .nl
    · subst he; cases hv with | lst hq => exact .lst (hq.mono fun b hb => ⟨⟨hb.1, fun e => by cases e⟩, rfl⟩)

/-- arguments, handed on -/
theorem view_any (H : HRel B W0 ρ ok h n w) {a a' : AV} {v : Value} (he : viewV h a = some a') (hv : V B ρ ok w a v) : V 0 noPlace (fun b => b < w.heap.size) w a' v := by
  unfold viewV at he
  split at he
  · rename_i l
    cases hm : l.mapM (leafV h) with
    | none => rw [hm] at he; cases he
    | some l' =>
      rw [hm] at he
      cases he
      cases hv with
      | agg h1 h2 h3 =>
        refine .agg (by rw [mapM_length hm]; exact h1) h2 (fun j c u hc hu => ?_)
        obtain ⟨x, hx, hfx⟩ := mapM_get hm j c hc
        exact leafV_sound H hfx (h3 j x u hx hu)
  · exact leafV_sound H he hv

theorem view_plain {a a' : AV} {v : Value} (he : viewV h a = some a') (hp : plainV a = true) (hv : V B ρ ok w a v) : V 0 noPlace ok w a' v := by
  unfold viewV at he
  split at he
  · rename_i l
    have hp' := List.all_eq_true.1 (show l.all plainLeaf = true from hp)
    cases hm : l.mapM (leafV h) with
    | none => rw [hm] at he; cases he
    | some l' =>
      rw [hm] at he
      cases he
      cases hv with
      | agg h1 h2 h3 =>
        refine .agg (by rw [mapM_length hm]; exact h1) h2 (fun j c u hc hu => ?_)
        obtain ⟨x, hx, hfx⟩ := mapM_get hm j c hc
        exact leafV_plain hfx (hp' x (List.mem_of_getElem? hx)) (h3 j x u hx hu)
  · rename_i hna
    have : plainLeaf a = true := by
      unfold plainV at hp
      split at hp
      · rename_i l; exact absurd rfl (hna l)
      · exact hp
    exact leafV_plain he this hv

theorem views_sound (H : HRel B W0 ρ ok h n w) {args args' : List AV} {vs : List Value} (he : args.mapM (viewV h) = some args') (hv : VL B ρ ok w args vs) : VL 0 noPlace (fun b => b < w.heap.size) w args' vs := by
  refine ⟨by rw [mapM_length he]; exact hv.1, fun j c u hc hu => ?_⟩
  obtain ⟨x, hx, hfx⟩ := mapM_get he j c hc
  exact view_any H hfx (hv.2 j x u hx hu)
theorem views_plain {args args' : List AV} {vs : List Value} (he : args.mapM (viewV h) = some args') (hp : args.all plainV = true) (hv : VL B ρ ok w args vs) : VL 0 noPlace ok w args' vs := by
  refine ⟨by rw [mapM_length he]; exact hv.1, fun j c u hc hu => ?_⟩
  obtain ⟨x, hx, hfx⟩ := mapM_get he j c hc
  exact view_plain hfx (List.all_eq_true.1 hp x (List.mem_of_getElem? hx)) (hv.2 j x u hx hu)

/-! what comes back -/

section back
variable {B' id m : Nat} {ρr ρ' : Nat → Option Place} {okr ok' : Nat → Prop}

/-- a leaf of a result, as the caller has it -/
theorem leaf_back (hB : B ≤ B') (hρ : ∀ i, ρr i ≠ none → ρ' (id + i) = ρr i) (hok : ∀ b, okr b → B' ≤ b → ok' b) {a : AV} {v : Value} (hres : resLeaf a = true) (hc : newLeaf a = true ∨ ∀ b, okr b → ok' b) (hv : V B' ρr okr w a v) :
    V B ρ' ok' w (shiftLeaf id a) v := by
  cases a <;> simp [resLeaf] at hres <;> simp only [shiftLeaf]
  · cases hv; exact .und
  · cases hv with | «at» h1 => exact .at h1
  · cases hv; exact .nl
  · rename_i fr s rows
    cases hv with
    | lst hp =>
      refine .lst (hp.mono fun b hb => ⟨⟨?_, fun e => Nat.le_trans hB (hb.2 e)⟩, rfl⟩)
      rcases hc with hc | hc
      · exact hok b hb.1 (hb.2 (by simpa [newLeaf] using hc))
      · exact hc b hb.1
  · cases hv with
    | own0 hp => exact .own0 ((hρ _ (by rw [hp]; simp)).trans hp)
    | own hp h1 h2 => exact .own ((hρ _ (by rw [hp]; simp)).trans hp) h1 h2
  · subst hres
    cases hv with
    | fn h1 h2 => exact .fn h1 (by simp)

theorem agg_back (hB : B ≤ B') (hρ : ∀ i, ρr i ≠ none → ρ' (id + i) = ρr i) (hok : ∀ b, okr b → B' ≤ b → ok' b) {a : AV} {v : Value} (hres : resAgg a = true) (hc : newAgg a = true ∨ ∀ b, okr b → ok' b) (hv : V B' ρr okr w a v) :
    V B ρ' ok' w (shiftAgg id a) v := by
  unfold shiftAgg
  split
  · rename_i l
    have hr := List.all_eq_true.1 (show l.all resLeaf = true from hres)
    cases hv with
    | agg h1 h2 h3 =>
      refine .agg (by simpa using h1) h2 (fun j c u hcj hu => ?_)
      rw [List.getElem?_map] at hcj
      cases hx : l[j]? with
      | none => rw [hx] at hcj; cases hcj
      | some x =>
        rw [hx] at hcj
        cases hcj
        refine leaf_back hB hρ hok (hr x (List.mem_of_getElem? hx)) ?_ (h3 j x u hx hu)
        rcases hc with hc | hc
        · exact Or.inl (List.all_eq_true.1 (show l.all newLeaf = true from hc) x (List.mem_of_getElem? hx))
        · exact Or.inr hc
  · rename_i hna
    have e1 : resAgg a = resLeaf a := by unfold resAgg; split; (rename_i l; exact absurd rfl (hna l)); rfl
    have e2 : newAgg a = newLeaf a := by unfold newAgg; split; (rename_i l; exact absurd rfl (hna l)); rfl
    rw [e1] at hres
    rw [e2] at hc
    exact leaf_back hB hρ hok hres hc hv

theorem res_back (hB : B ≤ B') (hρ : ∀ i, ρr i ≠ none → ρ' (id + i) = ρr i) (hok : ∀ b, okr b → B' ≤ b → ok' b) {a : AV} {v : Value} (hres : resV a = true) (hc : newV a = true ∨ ∀ b, okr b → ok' b) (hv : V B' ρr okr w a v) :
    V B ρ' ok' w (shiftV id a) v := by
  unfold shiftV
  split
  · rename_i l
    have hr := List.all_eq_true.1 (show l.all resAgg = true from hres)
    cases hv with
    | tup h1 h3 =>
      refine .tup (by simpa using h1) (fun j c u hcj hu => ?_)
      rw [List.getElem?_map] at hcj
      cases hx : l[j]? with
      | none => rw [hx] at hcj; cases hcj
      | some x =>
        rw [hx] at hcj
        cases hcj
        refine agg_back hB hρ hok (hr x (List.mem_of_getElem? hx)) ?_ (h3 j x u hx hu)
        rcases hc with hc | hc
        · exact Or.inl (List.all_eq_true.1 (show l.all newAgg = true from hc) x (List.mem_of_getElem? hx))
        · exact Or.inr hc
  · rename_i hna
    have e1 : resV a = resAgg a := by unfold resV; split; (rename_i l; exact absurd rfl (hna l)); rfl
    have e2 : newV a = newAgg a := by unfold newV; split; (rename_i l; exact absurd rfl (hna l)); rfl
    rw [e1] at hres
    rw [e2] at hc
    exact agg_back hB hρ hok hres hc hv
end back

theorem updL_get (h : Heap) : ∀ (l : List HE) (k i : Nat), updL h k l i = if k ≤ i ∧ i < k + l.length then l[i - k]? else h i
  | [], k, i => by simp [updL]; omega
  | e :: l, k, i => by
    simp only [updL]
    rw [updL_get (upd h k (some e)) l (k + 1) i]
    by_cases h1 : i = k
    · subst h1; simp [upd]; intro h2; omega
    · by_cases h2 : k + 1 ≤ i ∧ i < k + 1 + l.length
      · have h3 : k ≤ i ∧ i < k + (e :: l).length := by simp; omega
        rw [if_pos h2, if_pos h3]
        have : i - k = (i - (k + 1)) + 1 := by omega
        rw [this]; simp
      · have h3 : ¬ (k ≤ i ∧ i < k + (e :: l).length) := by simp; omega
        rw [if_neg h2, if_neg h3, upd_ne _ _ h1]

/-- a call by what it promises of what is read -/
theorem call_sound (H : HRel B W0 ρ ok h n w) {f : FuncId} {args args' : List AV} {vs : List Value} {r : AV} {news : List HE} {id : Nat} (hid : id + 4 ≤ n) (hfree : ∀ j, j < 4 → ρ (id + j) = none) (hv : VL B ρ ok w args vs)
    (hview : args.mapM (viewV h) = some args') (hC : C P f args' r news) (hcond : (newV r = true ∧ newNews news = true) ∨ args.all plainV = true) (hl : news.length ≤ 4) :
    Calls P f vs.toArray w fun e w' => ∃ v ρ' ok', e = .returned v ∧ HRel B W0 ρ' ok' (updL h id news) n w' ∧ V B ρ' ok' w' (shiftV id r) v ∧ Ext (fun i => id ≤ i ∧ i < id + 4) ρ ρ' ok ok' w w' := by
  obtain ⟨-, hres, hpn, hcall⟩ := hC
  have hbase : B ≤ w.heap.size := Nat.le_trans H.base H.below.size
  -- either all that comes back is new, or what was read is stable
  obtain ⟨F, hF1, hF2, hF3⟩ : ∃ F : Nat → Prop, (∀ b, F b → b < w.heap.size) ∧ VL 0 noPlace F w args' vs ∧ ((newV r = true ∧ newNews news = true) ∨ ∀ b, F b → ok b) := by
    rcases hcond with hc | hc
    · exact ⟨_, fun b hb => hb, views_sound H hview hv, Or.inl hc⟩
    · exact ⟨ok, H.okb, views_plain hview hc hv, Or.inr fun b hb => hb⟩
  refine (hcall F w vs hF1 hF2).mono ?_
  rintro e w' ⟨v, ρr, okr, rfl, Hr, hvr, hokr⟩
  have hbel := Hr.below
  let ok' : Nat → Prop := fun b => ok b ∨ (okr b ∧ w.heap.size ≤ b)
  let ρ' : Nat → Option Place := fun i => if id ≤ i ∧ i < id + news.length then ρr (i - id) else ρ i
  have hρr : ∀ i, ρr i ≠ none → ρ' (id + i) = ρr i := by
    intro i hi
    have : i < news.length := by
      rcases Nat.lt_or_ge i news.length with g | g
      · exact g
      · exact absurd (Hr.fresh i g) hi
    show (if id ≤ id + i ∧ id + i < id + news.length then ρr (id + i - id) else ρ (id + i)) = _
    rw [if_pos (by omega)]; congr 1; omega
  have hρo : ∀ i, ρ i ≠ none → ρ' i = ρ i := by
    intro i hi
    show (if id ≤ i ∧ i < id + news.length then ρr (i - id) else ρ i) = _
    rw [if_neg]
    intro hc
    have := hfree (i - id) (by omega)
    rw [show id + (i - id) = i by omega] at this
    exact hi this
  have hstay : ∀ b, ok b → ok' b ∧ w'.heap[b]? = w.heap[b]? := fun b hb => ⟨Or.inl hb, hbel.block b (H.okb b hb)⟩
  have hcc : newV r = true ∨ ∀ b, okr b → ok' b := by
    rcases hF3 with hc | hc
    · exact Or.inl hc.1
    · refine Or.inr fun b hb => ?_
      rcases hokr b hb with g | g
      · exact Or.inl (hc b g)
      · exact Or.inr ⟨hb, g⟩
  have hlt : ∀ j ej b c s, h j = some ej → ρ j = some (some (b, c, s)) → b < w.heap.size ∧ ¬ ok b := by
    intro j ej b c s hj hb
    rcases H.row j ej hj with ⟨q, _⟩ | ⟨b', cap', cur', p1, p2, p3, p4, _⟩
    · rw [hb] at q; cases q
    · rw [hb] at p1
      simp only [Option.some.injEq, Prod.mk.injEq] at p1
      obtain ⟨rfl, rfl, rfl⟩ := p1
      exact ⟨lt_some p4, p3⟩
  have hge : ∀ j ej b c s, news[j]? = some ej → ρr j = some (some (b, c, s)) → w.heap.size ≤ b := by
    intro j ej b c s hj hb
    rcases Hr.row j ej hj with ⟨q, _⟩ | ⟨b', cap', cur', p1, p2, p3, p4, _⟩
    · rw [hb] at q; cases q
    · rw [hb] at p1
      simp only [Option.some.injEq, Prod.mk.injEq] at p1
      obtain ⟨rfl, rfl, rfl⟩ := p1
      exact p2
  have get : ∀ i en, updL h id news i = some en → (∃ j, i = id + j ∧ j < news.length ∧ news[j]? = some en ∧ ρ' i = ρr j) ∨ (h i = some en ∧ ¬ (id ≤ i ∧ i < id + news.length) ∧ ρ' i = ρ i) := by
    intro i en hi
    rw [updL_get] at hi
    split at hi
    · rename_i hc
      refine Or.inl ⟨i - id, by omega, by omega, hi, ?_⟩
      show (if id ≤ i ∧ i < id + news.length then ρr (i - id) else ρ i) = _
      rw [if_pos hc]
    · rename_i hc
      refine Or.inr ⟨hi, hc, ?_⟩
      show (if id ≤ i ∧ i < id + news.length then ρr (i - id) else ρ i) = _
      rw [if_neg hc]
  refine ⟨v, ρ', ok', rfl, ⟨H.below.trans (hbel.mono hbase), H.base, fun b hb => ?_, fun i hi => ?_, fun i en hi => ?_, ?_⟩, res_back hbase hρr (fun b hb g => Or.inr ⟨hb, g⟩) hres hcc hvr, ⟨fun i hi => ?_, hρo, hstay, fun b hb => ?_, hbel.size⟩⟩
  · rcases hb with hb | hb
    · exact Nat.lt_of_lt_of_le (H.okb b hb) hbel.size
    · exact Hr.okb b hb.1
  · show (if id ≤ i ∧ i < id + news.length then ρr (i - id) else ρ i) = _
    rw [if_neg (by omega)]; exact H.fresh i hi
  · rcases get i en hi with ⟨j, rfl, hj, hnj, hpl⟩ | ⟨hh, hnc, hpl⟩
    · rcases Hr.row j en hnj with ⟨q1, q2⟩ | ⟨b, cap, cur, q1, q2, q3, q4, q5, q6, q7, q8, q9, q10⟩
      · exact Or.inl ⟨hpl.trans q1, q2⟩
      · refine Or.inr ⟨b, cap, cur, hpl.trans q1, Nat.le_trans hbase q2, ?_, q4, q5, q6, q7, q8, q9, ⟨q10.1, q10.2.1, fun k c u hc hu => ?_⟩⟩
        · rintro (g | g)
          · have := H.okb b g; omega
          · exact q3 g.1
        · have hcell := q10.2.2 k c u hc hu
          obtain ⟨row, hrow, hcm⟩ := List.mem_flatten.1 (List.mem_of_getElem? hc)
          have hpl2 : plainCell c = true := by
            have := List.all_eq_true.1 hpn en (List.mem_of_getElem? hnj)
            have := List.all_eq_true.1 this row hrow
            exact List.all_eq_true.1 this c hcm
          have hnw : newLeaf c = true ∨ ∀ b, okr b → ok' b := by
            rcases hF3 with hc' | hc'
            · have := List.all_eq_true.1 hc'.2 en (List.mem_of_getElem? hnj)
              have := List.all_eq_true.1 this row hrow
              exact Or.inl (List.all_eq_true.1 this c hcm)
            · refine Or.inr fun b hb => ?_
              rcases hokr b hb with g | g
              · exact Or.inl (hc' b g)
              · exact Or.inr ⟨hb, g⟩
          have hres2 : resLeaf c = true := by cases c <;> simp [plainCell] at hpl2 <;> rfl
          have hsh : shiftLeaf id c = c := by cases c <;> simp [plainCell] at hpl2 <;> rfl
          have := leaf_back (B := B) hbase hρr (fun b hb g => Or.inr ⟨hb, g⟩) hres2 hnw hcell
          rw [hsh] at this
          exact this
    · have := H.row_mono (ok' := ok') (w' := w') hρo hstay hh fun b c s hb => ⟨hbel.block b (hlt i en b c s hh hb).1, by
        rintro (g | g)
        · exact (hlt i en b c s hh hb).2 g
        · have := (hlt i en b c s hh hb).1; omega⟩
      exact this
  · intro i j ei ej b c s c' s' hi hj hbi hbj
    rcases get i ei hi with ⟨i1, rfl, hi1, hni, hpi⟩ | ⟨hhi, hnci, hpi⟩ <;> rcases get j ej hj with ⟨j1, rfl, hj1, hnj, hpj⟩ | ⟨hhj, hncj, hpj⟩
    · rw [hpi] at hbi
      rw [hpj] at hbj
      rw [Hr.inj i1 j1 ei ej b c s c' s' hni hnj hbi hbj]
    · rw [hpi] at hbi
      rw [hpj] at hbj
      have g1 := hge i1 ei b c s hni hbi
      have g2 := (hlt j ej b c' s' hhj hbj).1
      omega
    · rw [hpi] at hbi
      rw [hpj] at hbj
      have g1 := hge j1 ej b c' s' hnj hbj
      have g2 := (hlt i ei b c s hhi hbi).1
      omega
    · rw [hpi] at hbi
      rw [hpj] at hbj
      exact H.inj i j ei ej b c s c' s' hhi hhj hbi hbj
  · show (if id ≤ i ∧ i < id + news.length then ρr (i - id) else ρ i) = _
    rw [if_neg (by omega)]
  · rcases hb with hb | hb
    · exact Or.inl hb
    · exact Or.inr hb.2

end
end Go.Proofs.Ytdjdjnmccphbjaa.E
