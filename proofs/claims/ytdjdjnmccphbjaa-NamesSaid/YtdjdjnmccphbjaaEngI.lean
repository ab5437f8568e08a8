/- EngI: a store; an append. -/
import Derived.Test.YtdjdjnmccphbjaaEngH
namespace Go.Proofs.Ytdjdjnmccphbjaa.E
open Go.RowKit
set_option linter.unusedSimpArgs false

section
variable {P : Program} {B : Nat} {W0 : World} {ρ : Nat → Option Place} {ok : Nat → Prop} {w : World} {h : Heap} {n : Nat}

theorem flatten_put {rows : List (List AV)} {s r o : Nat} {row cs : List AV} (hs : ∀ x, x ∈ rows → x.length = s) (hr : rows[r]? = some row) (ho : o + cs.length ≤ s) :
    (rows.set r (putCells row o cs)).flatten = rows.flatten.take (r * s + o) ++ cs ++ rows.flatten.drop (r * s + o + cs.length) := by
  induction rows generalizing r with
  | nil => simp at hr
  | cons x rows ih =>
    have hx := hs x (by simp)
    cases r with
    | zero =>
      simp at hr
      subst hr
      simp only [List.set_cons_zero, List.flatten_cons, Nat.zero_mul, Nat.zero_add, putCells]
      rw [List.take_append_of_le_length (by omega), List.drop_append_of_le_length (by omega)]
      simp
    | succ r =>
      simp only [List.set_cons_succ, List.flatten_cons]
      rw [ih (fun y hy => hs y (by simp [hy])) (by simpa using hr)]
      have e1 : (r + 1) * s + o = x.length + (r * s + o) := by rw [Nat.succ_mul, hx]; omega
      rw [e1, List.take_length_add_append, Nat.add_assoc x.length, List.drop_length_add_append]
      simp

theorem take_put (cur vs : List Value) (p L : Nat) (h1 : p + vs.length ≤ L) (h2 : L ≤ cur.length) :
    (cur.take p ++ vs ++ cur.drop (p + vs.length)).take L = (cur.take L).take p ++ vs ++ (cur.take L).drop (p + vs.length) := by
  apply List.ext_getElem?
  intro j
  simp only [List.getElem?_take, List.getElem?_append, List.getElem?_drop, List.length_append, List.length_take]
  have e1 : min p cur.length = p := by omega
  have e2 : min p (min L cur.length) = p := by omega
  rw [e1, e2]
  by_cases hj : j < L
  · simp only [hj, if_true]
    by_cases h3 : j < p
    · have : j < p + vs.length := by omega
      simp [h3, this]
    · by_cases h4 : j < p + vs.length
      · simp [h3, h4]
      · simp only [h3, h4, if_false]
        have h5 : p + vs.length + (j - (p + vs.length)) < L := by omega
        simp [h5]
  · simp only [hj, if_false]
    have h3 : ¬ j < p + vs.length := by omega
    have h4 : ¬ j < p := by omega
    have h5 : ¬ p + vs.length + (j - (p + vs.length)) < L := by omega
    simp [h3, h4, h5]

/-- a row of one's own is written over in its block -/
theorem HRel.rewrite (H : HRel B W0 ρ ok h n w) {i : Nat} {e : HE} (he : h i = some e) {b cap : Nat} {cur : Array Value} (hp : ρ i = some (some (b, cap, e.s))) (hB : B ≤ b) (hok : ¬ ok b) (hb : w.heap[b]? = some (.cells cur e.ty (0, 0)))
    {rows : List (List AV)} {cur' : Array Value} (hcs : cur'.size = cap * e.s) (hlc : rows.length ≤ cap) (hcm : cap ≤ maxLen) (hs : 0 < e.s) (hr : ∀ r, r ∈ rows → r.length = e.s) (hcr : CR B ρ ok w rows.flatten (cur'.toList.take (rows.length * e.s))) :
    HRel B W0 ρ ok (upd h i (some ⟨e.ty, e.s, rows⟩)) n (w.setRow b cur') ∧ Ext (fun _ => False) ρ ρ ok ok w (w.setRow b cur') := by
  have hother : ∀ k, k ≠ b → (w.setRow b cur').heap[k]? = w.heap[k]? := fun k hk => setRow_other w b k cur' hk
  have hF : ∀ k, ok k → ok k ∧ (w.setRow b cur').heap[k]? = w.heap[k]? := fun k hk => ⟨hk, hother k (by intro e; subst e; exact hok hk)⟩
  have hρ : ∀ i, ρ i ≠ none → ρ i = ρ i := fun _ _ => rfl
  have hbel : Below B w (w.setRow b cur') := ⟨rfl, rfl, rfl, by simp, fun k hk => hother k (by omega)⟩
  refine ⟨⟨H.below.trans hbel, H.base, fun k hk => by simpa using H.okb k hk, H.fresh, fun j ej hj => ?_, fun i1 j1 e1 e2 b1 c1 s1 c2 s2 g1 g2 g3 g4 => ?_⟩, ⟨fun _ _ => rfl, hρ, hF, fun k hk => Or.inl hk, by simp⟩⟩
  · by_cases hc : j = i
    · subst hc
      rw [upd_same] at hj
      cases hj
      exact Or.inr ⟨b, cap, cur', hp, hB, hok, setRow_heap w b cur cur' _ _ hb, hcs, hlc, hcm, hs, hr, hcr.mono hρ hF⟩
    · rw [upd_ne _ _ hc] at hj
      refine H.row_mono hρ hF hj fun b' cap' s' hb' => ?_
      rcases H.row j ej hj with ⟨q, _⟩ | ⟨b2, cap2, cur2, q1, q2, q3, q4, _⟩
      · rw [hb'] at q; cases q
      · rw [hb'] at q1
        simp only [Option.some.injEq, Prod.mk.injEq] at q1
        obtain ⟨rfl, rfl, rfl⟩ := q1
        refine ⟨hother _ ?_, q3⟩
        intro e2; subst e2
        exact hc (H.inj j i ej e _ _ _ _ _ hj he hb' hp)
  · have f : ∀ k ek, upd h i (some ⟨e.ty, e.s, rows⟩) k = some ek → ∃ ek', h k = some ek' := by
      intro k ek hk
      by_cases hc : k = i
      · subst hc; exact ⟨e, he⟩
      · rw [upd_ne _ _ hc] at hk; exact ⟨ek, hk⟩
    obtain ⟨x, hx⟩ := f _ _ g1
    obtain ⟨y, hy⟩ := f _ _ g2
    exact H.inj i1 j1 x y b1 c1 s1 c2 s2 hx hy g3 g4

theorem store_sound (H : HRel B W0 ρ ok h n w) {t : TypeId} {x v : AV} {u uv : Value} {h' : Heap} (hx : V B ρ ok w x u) (hv : V B ρ ok w v uv) (he : storeA P h t x v = some h') :
    ∃ w', (Instr.storeAt t u uv).run P w = .ok () w' ∧ HRel B W0 ρ ok h' n w' ∧ Ext (fun _ => False) ρ ρ ok ok w w' := by
  unfold storeA at he
  split at he
  · cases he
  · rename_i ti hti
    split at he
    · rename_i i s r o
      split at he
      · rename_i e hen
        split at he
        · rename_i hs
          split at he
          · rename_i row hrow
            split at he
            · rename_i hc
              obtain ⟨hc1, hc2, hc3⟩ := hc
              cases he
              have hcells := cells_sound hv (by omega)
              rcases H.row i e hen with ⟨_, q⟩ | ⟨b, cap, cur, q1, q2, q3, q4, q5, q6, q7, q8, q9, q10⟩
              · rw [q] at hrow; simp at hrow
              · cases hx with
                | ptr hp =>
                  rename_i b' cap'
                  rw [hs] at q1
                  rw [hp] at q1
                  simp only [Option.some.injEq, Prod.mk.injEq] at q1
                  obtain ⟨rfl, rfl, -⟩ := q1
                  subst hs
                  have hrl := q9 row (List.mem_of_getElem? hrow)
                  have hrk : r < e.rows.length := (List.getElem?_eq_some_iff.1 hrow).1
                  have hvl : uv.cells.toList.length = ti.size := by rw [← hcells.1, hc1]
                  have hmul : (r + 1) * e.s ≤ e.rows.length * e.s := Nat.mul_le_mul_right _ (by omega)
                  have hmul2 : e.rows.length * e.s ≤ cap' * e.s := Nat.mul_le_mul_right _ q6
                  rw [Nat.succ_mul] at hmul
                  have hrun := run_storeCells_at P b' (r * e.s + o) e.ty uv.cells.toList 0 cur w q4 (by omega) hcells.2.1
                  simp only [Nat.add_zero] at hrun
                  have hF := flatten_put (cs := cellsA v) (o := o) q9 hrow (by omega)
                  have hset : ∀ x, x ∈ e.rows.set r (putCells row o (cellsA v)) → x.length = e.s := by
                    intro y hy
                    rcases List.mem_or_eq_of_mem_set hy with hy | hy
                    · exact q9 y hy
                    · subst hy
                      simp only [putCells, List.length_append, List.length_take, List.length_drop]
                      omega
                  obtain ⟨g1, g2⟩ := H.rewrite hen (rows := e.rows.set r (putCells row o (cellsA v))) (cur' := (cur.toList.take (r * e.s + o) ++ uv.cells.toList ++ cur.toList.drop (r * e.s + o + uv.cells.toList.length)).toArray) hp q2 q3 q4
                    (by simp only [List.size_toArray, List.length_append, List.length_take, List.length_drop, Array.length_toList] at *; omega) (by simpa using q6) q7 q8 hset
                    (by
                      rw [hF, List.length_set]
                      simp only
                      rw [take_put _ _ _ _ (by omega) (by simp only [Array.length_toList]; omega)]
                      have hl : (cellsA v).length = uv.cells.toList.length := by omega
                      rw [hl]
                      exact ((q10.take _).append hcells).append (q10.drop _))
                  refine ⟨_, ?_, g1, g2⟩
                  have hus : uv.cells.size = ti.size := by simpa using hvl
                  simp [Instr.storeAt, Instr.sureAddr, storeVar, run_sizeOf hti, hus, hrun]
            · cases he
          · cases he
        · cases he
      · cases he
    · cases he

/-- a row under a new name, in a block that no other row lies in -/
theorem HRel.put_row (H : HRel B W0 ρ ok h n w) {id : Nat} (hid : id < n) (hfree : ρ id = none) {h0 : Heap} {w' : World} {g cap s : Nat} {ty : TypeId} {cur : Array Value} {rows : List (List AV)}
    (hbel : Below B w w') (hB : B ≤ g) (hg : w'.heap[g]? = some (.cells cur ty (0, 0))) (hcs : cur.size = cap * s) (hlc : rows.length ≤ cap) (hcm : cap ≤ maxLen) (hs : 0 < s) (hr : ∀ r, r ∈ rows → r.length = s)
    (hcr : CR B ρ ok w rows.flatten (cur.toList.take (rows.length * s)))
    (hh : ∀ j ej, h0 j = some ej → h j = some ej ∧ ∀ b c s, ρ j = some (some (b, c, s)) → b ≠ g ∧ w'.heap[b]? = w.heap[b]?) (hk : ∀ b, ok b → b ≠ g ∧ w'.heap[b]? = w.heap[b]?) :
    HRel B W0 (upd ρ id (some (some (g, cap, s)))) ok (upd h0 id (some ⟨ty, s, rows⟩)) n w' ∧ Ext (fun i => i = id) ρ (upd ρ id (some (some (g, cap, s)))) ok ok w w' := by
  have hρ : ∀ i, ρ i ≠ none → upd ρ id (some (some (g, cap, s))) i = ρ i := fun i hi => upd_ne _ _ (by intro e; subst e; exact hi hfree)
  have hF : ∀ b, ok b → ok b ∧ w'.heap[b]? = w.heap[b]? := fun b hb => ⟨hb, (hk b hb).2⟩
  refine ⟨⟨H.below.trans hbel, H.base, fun b hb => Nat.lt_of_lt_of_le (H.okb b hb) hbel.size, fun i hi => ?_, fun i en hi => ?_, ?_⟩, ⟨fun i hi => upd_ne _ _ hi, hρ, hF, fun b hb => Or.inl hb, hbel.size⟩⟩
  · rw [upd_ne _ _ (by omega)]; exact H.fresh i hi
  · by_cases hc : i = id
    · subst hc
      rw [upd_same] at hi
      cases hi
      exact Or.inr ⟨g, cap, cur, upd_same _ _ _, hB, fun hgk => (hk g hgk).1 rfl, hg, hcs, hlc, hcm, hs, hr, hcr.mono hρ hF⟩
    · rw [upd_ne _ _ hc] at hi
      obtain ⟨q1, q2⟩ := hh i en hi
      refine H.row_mono hρ hF q1 fun b c s' hb => ⟨(q2 b c s' hb).2, ?_⟩
      rcases H.row i en q1 with ⟨q, _⟩ | ⟨b', cap', cur', p1, p2, p3, p4, _⟩
      · rw [hb] at q; cases q
      · rw [hb] at p1
        simp only [Option.some.injEq, Prod.mk.injEq] at p1
        obtain ⟨rfl, rfl, rfl⟩ := p1
        exact p3
  · intro i j ei ej b c s1 c' s2 hi hj hbi hbj
    by_cases h1 : i = id <;> by_cases h2 : j = id
    · rw [h1, h2]
    · subst h1
      rw [upd_same] at hbi
      simp only [Option.some.injEq, Prod.mk.injEq] at hbi
      rw [upd_ne _ _ h2] at hj hbj
      exact absurd hbi.1.symm ((hh j ej hj).2 b c' s2 hbj).1
    · subst h2
      rw [upd_same] at hbj
      simp only [Option.some.injEq, Prod.mk.injEq] at hbj
      rw [upd_ne _ _ h1] at hi hbi
      exact absurd hbj.1.symm ((hh i ei hi).2 b c s1 hbi).1
    · rw [upd_ne _ _ h1] at hi hbi
      rw [upd_ne _ _ h2] at hj hbj
      exact H.inj i j ei ej b c s1 c' s2 (hh i ei hi).1 (hh j ej hj).1 hbi hbj

/-- an empty row, that lies nowhere -/
theorem HRel.put_none (H : HRel B W0 ρ ok h n w) {id : Nat} (hid : id < n) (hfree : ρ id = none) {h0 : Heap} (ty : TypeId) (s : Nat) (hh : ∀ j ej, h0 j = some ej → h j = some ej) :
    HRel B W0 (upd ρ id (some none)) ok (upd h0 id (some ⟨ty, s, []⟩)) n w ∧ Ext (fun i => i = id) ρ (upd ρ id (some none)) ok ok w w := by
  have hρ : ∀ i, ρ i ≠ none → upd ρ id (some none) i = ρ i := fun i hi => upd_ne _ _ (by intro e; subst e; exact hi hfree)
  have hF : ∀ b, ok b → ok b ∧ w.heap[b]? = w.heap[b]? := fun b hb => ⟨hb, rfl⟩
  refine ⟨⟨H.below, H.base, H.okb, fun i hi => ?_, fun i en hi => ?_, ?_⟩, ⟨fun i hi => upd_ne _ _ hi, hρ, hF, fun b hb => Or.inl hb, Nat.le_refl _⟩⟩
  · rw [upd_ne _ _ (by omega)]; exact H.fresh i hi
  · by_cases hc : i = id
    · subst hc
      rw [upd_same] at hi
      cases hi
      exact Or.inl ⟨upd_same _ _ _, rfl⟩
    · rw [upd_ne _ _ hc] at hi
      refine H.row_mono hρ hF (hh i en hi) fun b c s' hb => ⟨rfl, ?_⟩
      rcases H.row i en (hh i en hi) with ⟨q, _⟩ | ⟨b', cap', cur', p1, p2, p3, p4, _⟩
      · rw [hb] at q; cases q
      · rw [hb] at p1
        simp only [Option.some.injEq, Prod.mk.injEq] at p1
        obtain ⟨rfl, rfl, rfl⟩ := p1
        exact p3
  · intro i j ei ej b c s1 c' s2 hi hj hbi hbj
    have ne : ∀ k c s, upd ρ id (some none) k = some (some (b, c, s)) → k ≠ id := by
      intro k c s hb e; subst e; rw [upd_same] at hb; cases hb
    have h1 := ne _ _ _ hbi
    have h2 := ne _ _ _ hbj
    rw [upd_ne _ _ h1] at hi hbi
    rw [upd_ne _ _ h2] at hj hbj
    exact H.inj i j ei ej b c s1 c' s2 (hh i ei hi) (hh j ej hj) hbi hbj

/-- what is appended, as it lies -/
theorem src_sound (H : HRel B W0 ρ ok h n w) {y : AV} {yv : Value} {s : Nat} {news : List (List AV)} (hy : V B ρ ok w y yv) (he : srcRows h s y = some news) (hs : 0 < s) :
    ∃ src c nv, yv = .slice src news.length c ∧ CR B ρ ok w news.flatten nv ∧ (∀ r, r ∈ news → r.length = s) ∧
      (0 < news.length → ∃ ad, src = some ad ∧ ∀ (j : Nat) (u : Value), nv[j]? = some u → w.cell? (ad.add j) = some u) := by
  unfold srcRows at he
  split at he
  · cases he
    cases hy
    exact ⟨_, _, [], rfl, ⟨rfl, by simp, by simp⟩, by simp, by simp⟩
  · cases he
    cases hy
    exact ⟨_, _, [], rfl, ⟨rfl, by simp, by simp⟩, by simp, by simp⟩
  · rename_i fr s' rows
    split at he
    · rename_i hss
      cases he
      subst hss
      cases hy with
      | lst hp =>
        cases hp with
        | lst g1 g2 g3 g4 g5 g6 g7 g8 =>
          rename_i a cap us
          refine ⟨a, cap, us, rfl, ⟨g5.symm, g6, fun j c u hc hu => ((g8 j c u hc hu).mono fun b hb => ⟨hb.1, rfl⟩).V⟩, g1, fun hl => ?_⟩
          cases a with
          | none => have := (g4 rfl).1; subst this; simp at hl
          | some ad =>
            obtain ⟨q1, q2, q3⟩ := g7 ad rfl (by intro e; subst e; simp at hl)
            obtain ⟨b, off, sp⟩ := ad
            simp only at q1 q3
            subst q1
            exact ⟨_, rfl, fun j u hj => by rw [addr_add]; exact q3 j u hj⟩
    · cases he
  · rename_i i o m
    split at he
    · rename_i e hen
      split at he
      · rename_i hc
        obtain ⟨hs1, hle⟩ := hc
        cases he
        subst hs1
        have hlen : ((e.rows.drop o).take m).length = m := by simp; omega
        cases hy with
        | own0 hp =>
          rename_i a0
          exact ⟨a0, 0, [], by simp, by simp; exact ⟨rfl, by simp, by simp⟩, by simp, by simp⟩
        | own hp q1 q2 =>
          rename_i b cap s
          rcases H.row i e hen with ⟨q, _⟩ | ⟨b', cap', cur, p1, p2, p3, p4, p5, p6, p7, p8, p9, p10⟩
          · rw [hp] at q; cases q
          · rw [hp] at p1
            simp only [Option.some.injEq, Prod.mk.injEq] at p1
            obtain ⟨rfl, rfl, rfl⟩ := p1
            have hfl : ((e.rows.drop o).take m).flatten = (e.rows.flatten.drop (o * e.s)).take (m * e.s) := by
              rw [flatten_take (fun r hr => p9 r (List.mem_of_mem_drop hr)), flatten_drop p9]
            refine ⟨some ⟨b, o * e.s, none⟩, _, ((cur.toList.take (e.rows.length * e.s)).drop (o * e.s)).take (m * e.s), by rw [hlen], by rw [hfl]; exact (p10.drop _).take _, fun r hr => p9 r (List.mem_of_mem_drop (List.mem_of_mem_take hr)), fun _ => ⟨_, rfl, fun j u hj => ?_⟩⟩
            rw [List.getElem?_take] at hj
            split at hj
            · rw [List.getElem?_drop, List.getElem?_take] at hj
              split at hj
              · rw [addr_add]
                simp only [World.cell?, p4]
                simpa using hj
              · cases hj
            · cases hj
      · cases he
    · cases he
  · cases he

theorem run_append_zero {t ty e : TypeId} {i : TypeInfo} (ht : P.underlying t = some (.slice e)) (hi : P.info? e = some i) {b src : Option Addr} {k cap c : Nat} (hk : k ≤ cap) :
    (Builtin.append_ #[t, t] ty #[.slice b k cap, .slice src 0 c]).run P w = .ok (.slice b k cap) w := by
  cases b <;> cases src <;> simp [Builtin.append_, run_underlying ht, sizeOf, typeInfo, hi, Builtin.lenOf, Builtin.firstCells, loadCells, loadCellsFrom, storeCells, hk]

/-- an append to what has no room -/
theorem append_empty {t ty e : TypeId} {i : TypeInfo} {z : Value} (ht : P.underlying t = some (.slice e)) (hi : P.info? e = some i) (hz : i.zero = some z) (hzs : z.cells.size = i.size) {a0 : Option Addr} {ad : Addr} {m c : Nat} {nv : List Value}
    (hl : nv.length = m * i.size) (hn : ∀ (j : Nat) (u : Value), nv[j]? = some u → w.cell? (ad.add j) = some u) (h0 : 0 < m) (hm : m ≤ maxLen) (hb : m * i.bytes ≤ 140737488355328) :
    ∃ cap cur, (Builtin.append_ #[t, t] ty #[.slice a0 0 0, .slice (some ad) m c]).run P w = .ok (.slice (some ⟨w.heap.size, 0, none⟩) m cap) (w.drew.alloc (.cells cur e)) ∧ m ≤ cap ∧ cap ≤ maxLen ∧ cur.size = cap * i.size ∧ cur.toList.take (m * i.size) = nv := by
  have key : ∀ cur : Array Value, cur = nv.toArray ++ Builtin.zeroCells z.cells (grownCap w m 0 e - m) → m ≤ grownCap w m 0 e ∧ grownCap w m 0 e ≤ maxLen ∧ cur.size = grownCap w m 0 e * i.size ∧ cur.toList.take (m * i.size) = nv := by
    intro cur hc
    have hge := grownCap_ge w m 0 e
    refine ⟨hge, grownCap_le_maxLen w m 0 e hm, ?_, ?_⟩
    · subst hc
      simp only [Array.size_append, List.size_toArray, size_zeroCells, hzs, hl, ← Nat.add_mul]
      congr 1; omega
    · subst hc
      simp only [Array.toList_append]
      rw [← hl]
      exact List.take_left
  have h63 : (m : Int) ≤ 9223372036854775807 := by simp only [maxLen] at hm; omega
  cases a0 with
  | none =>
    have hr := run_append_nil (P := P) w t ty e i z ht hi hz ad m c nv hl hn h0 h63 (by omega)
    obtain ⟨k1, k2, k3, k4⟩ := key _ rfl
    exact ⟨_, _, hr, k1, k2, k3, k4⟩
  | some b =>
    have hr := run_append_grow (P := P) w t ty e i z ht hi hz b 0 0 [] (by simp) (by simp) ad m c nv hl hn (by omega) (by omega) (growslice_fits (by omega) (by rw [Nat.zero_add]; exact hb))
    simp only [Nat.zero_add, List.nil_append, Array.empty_append] at hr
    obtain ⟨k1, k2, k3, k4⟩ := key _ rfl
    exact ⟨_, _, hr, k1, k2, k3, k4⟩

theorem append_sound (T : TypesOk P) (H : HRel B W0 ρ ok h n w) {id : Nat} (hid : id < n) (hfree : ρ id = none) {t ty : TypeId} {x y v : AV} {xv yv : Value} {h' : Heap} (hx : V B ρ ok w x xv) (hy : V B ρ ok w y yv) (he : appendA P h id t x y = some (h', v)) :
    ∃ z w' ρ', (Builtin.append_ #[t, t] ty #[xv, yv]).run P w = .ok z w' ∧ HRel B W0 ρ' ok h' n w' ∧ V B ρ' ok w' v z ∧ Ext (fun i => i = id) ρ ρ' ok ok w w' := by
  have hbase : B ≤ w.heap.size := Nat.le_trans H.base H.below.size
  unfold appendA at he
  split at he
  · rename_i el htk
    have hu := tk_slice htk
    cases hti : tiOf P el with
    | none => rw [hti] at he; cases he
    | some ti =>
      rw [hti] at he
      simp only [Option.bind_some] at he
      obtain ⟨i, d, z, q1, q2, q3, q4, q5, q6, q7⟩ := ti_info hti
      obtain ⟨-, hzs⟩ := T el ti hti i z q1 q3
      split at he
      · cases he
      · rename_i hsb
        have hs : 0 < ti.size := by omega
        have hby : ti.bytes ≤ 1000 := by omega
        cases hsr : srcRows h ti.size y with
        | none => rw [hsr] at he; cases he
        | some news =>
          rw [hsr] at he
          simp only [Option.bind_some] at he
          split at he
          · cases he
          · rename_i hnl
            obtain ⟨src, c, nv, rfl, hcr, hrows, hsrc⟩ := src_sound H hy hsr hs
            have hnvl : nv.length = news.length * ti.size := by rw [← hcr.1, flatten_length hrows]
            have hF0 : ∀ w' : World, Below w.heap.size w w' → ∀ b, ok b → b ≠ w.heap.size ∧ w'.heap[b]? = w.heap[b]? := fun w' hb b hbk => ⟨Nat.ne_of_lt (H.okb b hbk), hb.block b (H.okb b hbk)⟩
            have blk : ∀ j ej b c s, h j = some ej → ρ j = some (some (b, c, s)) → b < w.heap.size ∧ ¬ ok b := by
              intro j ej b c s hj hb
              rcases H.row j ej hj with ⟨q, _⟩ | ⟨b', cap', cur', p1, p2, p3, p4, _⟩
              · rw [hb] at q; cases q
              · rw [hb] at p1
                simp only [Option.some.injEq, Prod.mk.injEq] at p1
                obtain ⟨rfl, rfl, rfl⟩ := p1
                exact ⟨lt_some p4, p3⟩
            -- an append to a base that has no room: the rows then are the news alone
            have empty : ∀ (a0 : Option Addr) (h0 : Heap), (∀ j ej, h0 j = some ej → h j = some ej) →
                ∃ z w' ρ', (Builtin.append_ #[t, t] ty #[.slice a0 0 0, .slice src news.length c]).run P w = .ok z w' ∧ HRel B W0 ρ' ok (upd h0 id (some ⟨el, ti.size, news⟩)) n w' ∧ V B ρ' ok w' (.own id 0 news.length) z ∧ Ext (fun i => i = id) ρ ρ' ok ok w w' := by
              intro a0 h0 hh
              by_cases hm : news.length = 0
              · have hn0 : news = [] := List.eq_nil_of_length_eq_zero hm
                subst hn0
                obtain ⟨g1, g2⟩ := H.put_none hid hfree el ti.size hh
                exact ⟨_, _, _, run_append_zero hu q1 (Nat.le_refl _), g1, .own0 (upd_same _ _ _), g2⟩
              · obtain ⟨ad, rfl, hrd⟩ := hsrc (by omega)
                have hbn : news.length * i.bytes ≤ 140737488355328 := by
                  have : news.length * i.bytes ≤ 100000000 * 1000 := Nat.mul_le_mul (by omega) (by omega)
                  omega
                obtain ⟨cap, cur, r1, r2, r3, r4, r5⟩ := append_empty (P := P) (ty := ty) hu q1 q3 hzs (a0 := a0) (ad := ad) (m := news.length) (c := c) (nv := nv) (by rw [hnvl, q4]) hrd (by omega) (by simp only [maxLen]; omega) hbn
                have hbel : Below w.heap.size w (w.drew.alloc (.cells cur el)) := ((Below.refl _ w).drew).alloc (Nat.le_refl _) _
                obtain ⟨g1, g2⟩ := H.put_row hid hfree (h0 := h0) (g := w.heap.size) (cap := cap) (s := ti.size) (ty := el) (cur := cur) (rows := news) (hbel.mono hbase) hbase (heap_alloc_new w.drew _) (by rw [r4, q4]) r2 r3 hs hrows
                  (by rw [q4, r5]; exact hcr) (fun j ej hj => ⟨hh j ej hj, fun b c s hb => ⟨Nat.ne_of_lt (blk j ej b c s (hh j ej hj) hb).1, hbel.block b (blk j ej b c s (hh j ej hj) hb).1⟩⟩) (hF0 _ hbel)
                refine ⟨_, _, _, r1, g1, ?_, g2⟩
                have := V.own (B := B) (ok := ok) (w := w.drew.alloc (.cells cur el)) (o := 0) (n := news.length) (upd_same ρ id (some (some (w.heap.size, cap, ti.size)))) (by omega) r3
                simpa using this
            split at he
            · cases he
              cases hx
              exact empty _ h (fun _ _ hj => hj)
            · rename_i i0 n0
              split at he
              · rename_i e hen
                split at he
                · rename_i hc
                  obtain ⟨c1, c2, c3, c4, c5⟩ := hc
                  simp only [Option.some.injEq, Prod.mk.injEq] at he
                  obtain ⟨rfl, rfl⟩ := he
                  have hh0 : ∀ j ej, upd h i0 none j = some ej → h j = some ej := by
                    intro j ej hj
                    by_cases hji : j = i0
                    · subst hji; rw [upd_same] at hj; cases hj
                    · rw [upd_ne _ _ hji] at hj; exact hj
                  cases hx with
                  | own0 hp =>
                    simp only [List.take_zero, List.nil_append, Nat.zero_add]
                    exact empty _ _ hh0
                  | own hp p1 p2 =>
                    rename_i b cap s
                    rcases H.row i0 e hen with ⟨q, _⟩ | ⟨b', cap', cur, r1, r2, r3, r4, r5, r6, r7, r8, r9, r10⟩
                    · rw [hp] at q; cases q
                    · rw [hp] at r1
                      simp only [Option.some.injEq, Prod.mk.injEq] at r1
                      obtain ⟨rfl, rfl, rfl⟩ := r1
                      subst c1
                      have htake : ∀ r, r ∈ e.rows.take n0 → r.length = e.s := fun r hr => r9 r (List.mem_of_mem_take hr)
                      have hmul : n0 * e.s ≤ e.rows.length * e.s := Nat.mul_le_mul_right _ c3
                      have hmul2 : e.rows.length * e.s ≤ cap * e.s := Nat.mul_le_mul_right _ r6
                      have hxs : CR B ρ ok w (e.rows.take n0).flatten (cur.toList.take (n0 * e.s)) := by
                        rw [flatten_take r9]
                        have := r10.take (n0 * e.s)
                        rw [List.take_take, Nat.min_eq_left hmul] at this
                        exact this
                      have hxl : (cur.toList.take (n0 * e.s)).length = n0 * e.s := by simp; omega
                      have hother : ∀ j ej, upd h i0 none j = some ej → h j = some ej ∧ ∀ bb c s, ρ j = some (some (bb, c, s)) → bb ≠ b := by
                        intro j ej hj
                        refine ⟨hh0 j ej hj, fun bb c s hb e2 => ?_⟩
                        subst e2
                        have := H.inj j i0 ej e _ _ _ _ _ (hh0 j ej hj) hen hb hp
                        subst this
                        rw [upd_same] at hj; cases hj
                      simp only [Nat.zero_mul, Nat.sub_zero]
                      by_cases hm : news.length = 0
                      · have hn0 : news = [] := List.eq_nil_of_length_eq_zero hm
                        subst hn0
                        obtain ⟨g1, g2⟩ := H.put_row hid hfree (h0 := upd h i0 none) (w' := w) (g := b) (cap := cap) (s := e.s) (ty := e.ty) (cur := cur) (rows := e.rows.take n0 ++ []) (Below.refl _ _) r2 r4 r5 (by simp; omega) r7 r8 (by simpa using htake)
                          (by simp only [List.append_nil, List.length_take]; rw [Nat.min_eq_left c3]; exact hxs) (fun j ej hj => ⟨(hother j ej hj).1, fun bb c s hb => ⟨(hother j ej hj).2 bb c s hb, rfl⟩⟩) (fun bb hbk => ⟨fun e2 => r3 (e2 ▸ hbk), rfl⟩)
                        refine ⟨_, _, _, run_append_zero hu q1 (by omega), by rw [← c2]; exact g1, ?_, g2⟩
                        have := V.own (B := B) (ok := ok) (w := w) (o := 0) (n := n0) (upd_same ρ id (some (some (b, cap, e.s)))) (by omega) r7
                        simpa using this
                      · obtain ⟨ad, rfl, hrd⟩ := hsrc (by omega)
                        have hown : w.ownsRow B e.ty e.s (.slice (some ⟨b, 0, none⟩) n0 cap) n0 (cur.toList.take (n0 * e.s)) := ⟨hxl, Or.inr ⟨b, cap, cur, rfl, r2, r4, by omega, r7, r5, rfl⟩⟩
                        have hbn : (n0 + news.length) * i.bytes ≤ 140737488355328 := by
                          have : (n0 + news.length) * i.bytes ≤ 200000000 * 1000 := Nat.mul_le_mul (by omega) (by omega)
                          omega
                        obtain ⟨v', w', s1, s2, s3, s4, s5⟩ := run_append_own_at (P := P) w B t ty e.ty i z e.s i.bytes hu q1 q3 (by omega) rfl (by omega) r8 _ n0 _ hown ad news.length c nv (by rw [hnvl, c2]) hrd hcr.2.1 (by simp only [maxLen]; omega) hbn hbase
                        obtain ⟨t1, t2⟩ := s2
                        rcases t2 with ⟨_, t2⟩ | ⟨g, cap', cur', rfl, t3, t4, t5, t6, t7, t8⟩
                        · omega
                        · have hgb : g = b ∨ g = w.heap.size := by
                            simp only [Value.ownBlock, Option.some.injEq] at s5
                            exact s5
                          have hblock : ∀ k, k < w.heap.size → k ≠ b → w'.heap[k]? = w.heap[k]? := fun k hk hne => s3.block k hk (by simp only [Value.ownBlock, ne_eq, Option.some.injEq]; exact hne)
                          have hbel : Below B w w' := ⟨s3.os, s3.tape, s3.output, s3.size, fun k hk => hblock k (by omega) (by omega)⟩
                          have hblt := lt_some r4
                          obtain ⟨g1, g2⟩ := H.put_row hid hfree (h0 := upd h i0 none) (w' := w') (g := g) (cap := cap') (s := e.s) (ty := e.ty) (cur := cur') (rows := e.rows.take n0 ++ news) hbel t3 t4 t7 (by simp only [List.length_append, List.length_take]; omega) t6 r8
                            (fun r hr => (List.mem_append.1 hr).elim (fun hr => htake r hr) (fun hr => by rw [c2]; exact hrows r hr))
                            (by
                              have e3 : (e.rows.take n0 ++ news).length = n0 + news.length := by simp; omega
                              rw [e3, t8, List.flatten_append]
                              exact hxs.append hcr)
                            (fun j ej hj => ⟨(hother j ej hj).1, fun bb c s hb => by
                              obtain ⟨u1, _⟩ := blk j ej bb c s (hother j ej hj).1 hb
                              have u2 := (hother j ej hj).2 bb c s hb
                              exact ⟨by omega, hblock bb u1 u2⟩⟩)
                            (fun bb hbk => by
                              have u1 := H.okb bb hbk
                              have u2 : bb ≠ b := fun e2 => r3 (e2 ▸ hbk)
                              exact ⟨by omega, hblock bb u1 u2⟩)
                          refine ⟨_, _, _, s1, by rw [← c2]; exact g1, ?_, g2⟩
                          have := V.own (B := B) (ok := ok) (w := w') (o := 0) (n := n0 + news.length) (upd_same ρ id (some (some (g, cap', e.s)))) (by omega) t6
                          simpa using this
                · cases he
              · cases he
            · cases he
  · cases he

end
end Go.Proofs.Ytdjdjnmccphbjaa.E
