/- EngH: what makes memory, what writes. -/
import Derived.Test.YtdjdjnmccphbjaaEngG
import Derived.Maps.AppendAt
namespace Go.Proofs.Ytdjdjnmccphbjaa.E
open Go.RowKit

section
variable {P : Program} {B : Nat} {W0 : World} {ρ : Nat → Option Place} {ok : Nat → Prop} {w : World} {h : Heap} {n : Nat}

theorem CR.mono {ρ' : Nat → Option Place} {ok' : Nat → Prop} {w' : World} {cl : List AV} {vs : List Value} (c : CR B ρ ok w cl vs) (hρ : ∀ i, ρ i ≠ none → ρ' i = ρ i) (hF : ∀ b, ok b → ok' b ∧ w'.heap[b]? = w.heap[b]?) : CR B ρ' ok' w' cl vs :=
  ⟨c.1, c.2.1, fun j x u hc hu => (c.2.2 j x u hc hu).mono hρ hF⟩

theorem upd_same {α : Type} (f : Nat → α) (k : Nat) (v : α) : upd f k v k = v := by simp [upd]
theorem upd_ne {α : Type} (f : Nat → α) {k x : Nat} (v : α) (h : x ≠ k) : upd f k v x = f x := by simp [upd, h]

theorem lt_some {w : World} {b : Nat} {o : Obj} (h : w.heap[b]? = some o) : b < w.heap.size := by
  rcases Nat.lt_or_ge b w.heap.size with g | g
  · exact g
  · simp [Array.getElem?_eq_none g] at h

/-- the heap relation goes on: all rows but those of S stay where they are, in blocks that have not turned -/
theorem HRel.row_mono (H : HRel B W0 ρ ok h n w) {ρ' : Nat → Option Place} {ok' : Nat → Prop} {w' : World} (hρ : ∀ i, ρ i ≠ none → ρ' i = ρ i) (hF : ∀ b, ok b → ok' b ∧ w'.heap[b]? = w.heap[b]?) {i : Nat} {e : HE} (he : h i = some e)
    (hb : ∀ b cap s, ρ i = some (some (b, cap, s)) → w'.heap[b]? = w.heap[b]? ∧ ¬ ok' b) :
    (ρ' i = some none ∧ e.rows = []) ∨ ∃ b cap cur, ρ' i = some (some (b, cap, e.s)) ∧ B ≤ b ∧ ¬ ok' b ∧ w'.heap[b]? = some (.cells cur e.ty (0, 0)) ∧ cur.size = cap * e.s ∧ e.rows.length ≤ cap ∧ cap ≤ maxLen ∧ 0 < e.s ∧
      (∀ r, r ∈ e.rows → r.length = e.s) ∧ CR B ρ' ok' w' e.rows.flatten (cur.toList.take (e.rows.length * e.s)) := by
  rcases H.row i e he with ⟨h1, h2⟩ | ⟨b, cap, cur, h1, h2, h3, h4, h5, h6, h7, h8, h9, hcr⟩
  · exact Or.inl ⟨(hρ i (by rw [h1]; simp)).trans h1, h2⟩
  · obtain ⟨g1, g2⟩ := hb b cap e.s h1
    exact Or.inr ⟨b, cap, cur, (hρ i (by rw [h1]; simp)).trans h1, h2, g2, by rw [g1]; exact h4, h5, h6, h7, h8, h9, hcr.mono hρ hF⟩

/-- a new row -/
theorem alloc_row (H : HRel B W0 ρ ok h n w) {id : Nat} (hid : id < n) (hfree : ρ id = none) {e : HE} {cs : Array Value} (hs : 0 < e.s) (hr : ∀ r, r ∈ e.rows → r.length = e.s) (hlen : e.rows.length ≤ maxLen)
    (hcr : CR B ρ ok w e.rows.flatten cs.toList) (hnone : h id = none ∨ True) :
    HRel B W0 (upd ρ id (some (some (w.heap.size, e.rows.length, e.s)))) ok (upd h id (some e)) n (w.alloc (.cells cs e.ty)) ∧
    Ext (fun i => i = id) ρ (upd ρ id (some (some (w.heap.size, e.rows.length, e.s)))) ok ok w (w.alloc (.cells cs e.ty)) := by
  have hbase : B ≤ w.heap.size := Nat.le_trans H.base H.below.size
  have hold : ∀ b, b < w.heap.size → (w.alloc (.cells cs e.ty)).heap[b]? = w.heap[b]? := fun b hb => Below.heap_alloc w _ b hb
  have hρ : ∀ i, ρ i ≠ none → upd ρ id (some (some (w.heap.size, e.rows.length, e.s))) i = ρ i := fun i hi => upd_ne _ _ (by intro e; subst e; exact hi hfree)
  have hF : ∀ b, ok b → ok b ∧ (w.alloc (.cells cs e.ty)).heap[b]? = w.heap[b]? := fun b hb => ⟨hb, hold b (H.okb b hb)⟩
  refine ⟨⟨H.below.alloc hbase _, H.base, fun b hb => ?_, fun i hi => ?_, fun i en hi => ?_, ?_⟩, ⟨fun i hi => upd_ne _ _ hi, hρ, hF, fun b hb => Or.inl hb, by simp⟩⟩
  · simp only [World.alloc, Array.size_push]; exact Nat.lt_succ_of_lt (H.okb b hb)
  · rw [upd_ne _ _ (by omega)]; exact H.fresh i hi
  · by_cases hc : i = id
    · subst hc
      rw [upd_same] at hi
      cases hi
      refine Or.inr ⟨w.heap.size, e.rows.length, cs, upd_same _ _ _, hbase, fun hk => Nat.lt_irrefl _ (H.okb _ hk), heap_alloc_new w _, ?_, Nat.le_refl _, hlen, hs, hr, ?_⟩
      · have := hcr.1
        rw [flatten_length hr] at this
        simpa using this.symm
      · have : cs.toList.take (e.rows.length * e.s) = cs.toList := List.take_of_length_le (by have := hcr.1; rw [flatten_length hr] at this; omega)
        rw [this]
        exact hcr.mono hρ hF
    · rw [upd_ne _ _ hc] at hi
      refine H.row_mono hρ hF hi fun b cap s hb => ?_
      rcases H.row i en hi with ⟨q, _⟩ | ⟨b', cap', cur, q1, q2, q3, q4, _⟩
      · rw [hb] at q; cases q
      · rw [hb] at q1
        simp only [Option.some.injEq, Prod.mk.injEq] at q1
        obtain ⟨rfl, rfl, rfl⟩ := q1
        exact ⟨hold _ (lt_some q4), q3⟩
  · intro i j ei ej b c s c' s' hi hj hbi hbj
    have old : ∀ k ek c s, k ≠ id → upd h id (some e) k = some ek → upd ρ id (some (some (w.heap.size, e.rows.length, e.s))) k = some (some (b, c, s)) → h k = some ek ∧ ρ k = some (some (b, c, s)) ∧ b < w.heap.size := by
      intro k ek c s hk he hb
      rw [upd_ne _ _ hk] at he hb
      refine ⟨he, hb, ?_⟩
      rcases H.row k ek he with ⟨q, _⟩ | ⟨b', cap', cur, q1, q2, q3, q4, _⟩
      · rw [hb] at q; cases q
      · rw [hb] at q1
        simp only [Option.some.injEq, Prod.mk.injEq] at q1
        obtain ⟨rfl, rfl, rfl⟩ := q1
        exact lt_some q4
    by_cases h1 : i = id <;> by_cases h2 : j = id
    · rw [h1, h2]
    · obtain ⟨_, _, q⟩ := old j ej c' s' h2 hj hbj
      subst h1
      rw [upd_same] at hbi
      simp only [Option.some.injEq, Prod.mk.injEq] at hbi
      omega
    · obtain ⟨_, _, q⟩ := old i ei c s h1 hi hbi
      subst h2
      rw [upd_same] at hbj
      simp only [Option.some.injEq, Prod.mk.injEq] at hbj
      omega
    · obtain ⟨a1, a2, _⟩ := old i ei c s h1 hi hbi
      obtain ⟨b1, b2, _⟩ := old j ej c' s' h2 hj hbj
      exact H.inj i j ei ej b c s c' s' a1 b1 a2 b2

theorem chunk_length (s : Nat) : ∀ (n : Nat) (l : List AV), (chunk s n l).length = n
  | 0, _ => rfl
  | n + 1, l => by simp [chunk, chunk_length s n]
theorem chunk_rows (s : Nat) : ∀ (n : Nat) (l : List AV), l.length = n * s → ∀ r, r ∈ chunk s n l → r.length = s
  | 0, _, _, r, hr => by simp [chunk] at hr
  | n + 1, l, hl, r, hr => by
    rw [Nat.succ_mul] at hl
    simp only [chunk, List.mem_cons] at hr
    rcases hr with rfl | hr
    · simp; omega
    · exact chunk_rows s n (l.drop s) (by simp; omega) r hr
theorem chunk_flatten (s : Nat) : ∀ (n : Nat) (l : List AV), l.length = n * s → (chunk s n l).flatten = l
  | 0, l, hl => by simp at hl; subst hl; rfl
  | n + 1, l, hl => by
    rw [Nat.succ_mul] at hl
    simp only [chunk, List.flatten_cons]
    rw [chunk_flatten s n (l.drop s) (by simp; omega), List.take_append_drop]

theorem CR.replicate {zl : List AV} {zv : List Value} (c : CR B ρ ok w zl zv) : ∀ n, CR B ρ ok w (List.replicate n zl).flatten (List.replicate n zv).flatten
  | 0 => ⟨rfl, by simp, by simp⟩
  | n + 1 => by
    simp only [List.replicate_succ, List.flatten_cons]
    exact c.append (CR.replicate c n)

theorem zeros_eq (z : Array Value) (s n : Nat) (hs : z.size = s) (h0 : 0 < s) : ((Array.range (n * s)).map (z[· % z.size]!)).toList = (List.replicate n z.toList).flatten := by
  have hu : ∀ r, r ∈ List.replicate n z.toList → r.length = s := by
    intro r hr; rw [List.eq_of_mem_replicate hr]; simpa using hs
  apply List.ext_getElem?
  intro j
  by_cases hj : j < n * s
  · have hk : j / s < n := by rw [Nat.div_lt_iff_lt_mul h0]; exact hj
    have hm := Nat.mod_lt j h0
    have e := flatten_get (rows := List.replicate n z.toList) (k := j / s) (row := z.toList) hu (by simp [hk]) hm
    have hdm : j / s * s + j % s = j := by rw [Nat.mul_comm]; exact Nat.div_add_mod j s
    rw [hdm] at e
    rw [e]
    simp [hj, hs]
    have hmz : j % s < z.size := by omega
    simp [hmz]
  · rw [List.getElem?_eq_none (by simp; omega), List.getElem?_eq_none (by rw [flatten_length hu]; simp; omega)]

theorem buildA_length {place : Nat → Option (Nat × Nat)} : ∀ {parts : List (Nat × AV)} {cl out : List AV}, buildA cl place parts = some out → out.length = cl.length
  | [], cl, out, he => by simp [buildA] at he; rw [he]
  | (i, x) :: parts, cl, out, he => by
    simp only [buildA] at he
    split at he
    · cases he
    · split at he
      · rename_i hc
        rw [buildA_length he]
        simp only [putCells, List.length_append, List.length_take, List.length_drop]
        omega
      · cases he

/-- what is made -/
theorem new_sound (T : TypesOk P) {nt : Nat} {st : St} {a : Act} (R : Rl B W0 ρ ok nt st a w) {o : Oper} (hok : opOk o.op = true) {id : Nat} (hid : id < st.n) (hfree : ρ id = none) {e : HE} {v : AV} (he : newA P st.t id o.op = some (e, v)) :
    ∃ z w' ρ', (execOp a.eval o).run P w = .ok (.value z) w' ∧ HRel B W0 ρ' ok (upd st.h id (some e)) st.n w' ∧ V B ρ' ok w' v z ∧ Ext (fun i => i = id) ρ ρ' ok ok w w' := by
  have ev : ∀ x, okOpd x = true → V B ρ ok w (evA st.t x) (a.eval x) := fun x hx => ev_sound R hx
  generalize ho : o.op = op at *
  unfold execOp
  simp only [ho]
  have zc : ∀ {t ti}, tiOf P t = some ti → ∃ z, (zeroValue t).run P w = .ok z w ∧ CR B ρ ok w ti.zero z.cells.toList ∧ z.cells.size = ti.size ∧ (∃ i, P.info? t = some i ∧ i.zero = some z ∧ i.size = ti.size ∧ i.bytes = ti.bytes) := by
    intro t ti hti
    obtain ⟨i, d, z, h1, h2, h3, h4, h5, h6, h7⟩ := ti_info hti
    have hz0 := T t ti hti i z h1 h3
    exact ⟨z, by simp [zeroValue, typeInfo, h1, h3], by rw [h6]; exact zero_sound hz0.1, by rw [h4]; exact hz0.2, i, h1, h3, h4.symm, h5.symm⟩
  unfold newA at he
  split at he
  · -- alloc
    rename_i t
    cases hti : tiOf P t with
    | none => rw [hti] at he; cases he
    | some ti =>
      rw [hti] at he
      simp only [Option.bind_some] at he
      split at he
      · rename_i hc
        cases he
        obtain ⟨z, h1, h2, h3, -⟩ := zc hti
        obtain ⟨g1, g2⟩ := alloc_row R.heap hid hfree (e := ⟨t, ti.size, [ti.zero]⟩) (cs := z.cells) hc.2 (by simpa using hc.1) (by simp [maxLen]) (by simpa using h2) (Or.inr trivial)
        refine ⟨_, _, _, ?_, g1, .ptr (upd_same _ _ _), g2⟩
        simp [Instr.alloc, h1, newVar, newRow]
      · cases he
  · -- box
    rename_i t x
    cases hti : tiOf P t with
    | none => rw [hti] at he; cases he
    | some ti =>
      rw [hti] at he
      simp only [Option.bind_some] at he
      split at he
      · rename_i hc
        cases he
        have hx := ev x (opd hok (by simp [Op.operands]))
        have hcr := cells_sound hx (by omega)
        obtain ⟨g1, g2⟩ := alloc_row R.heap hid hfree (e := ⟨t, ti.size, [cellsA (evA st.t x)]⟩) (cs := (a.eval x).cells) hc.2 (by simpa using hc.1) (by simp [maxLen]) (by simpa using hcr) (Or.inr trivial)
        refine ⟨_, _, _, ?_, g1, .ptr (upd_same _ _ _), g2⟩
        simp [Instr.box, newVar, newRow]
      · cases he
  · -- buildSlice
    rename_i ty m parts
    split at he
    · rename_i el htk
      have hu := tk_slice htk
      cases hti : tiOf P el with
      | none => rw [hti] at he; cases he
      | some ti =>
        rw [hti] at he
        simp only [Option.bind_some] at he
        split at he
        · rename_i hc
          obtain ⟨hc1, hc2⟩ := hc
          obtain ⟨z, h1, h2, h3, -⟩ := zc hti
          obtain ⟨p1, p2⟩ := parts_sound ev parts (fun p hp => opd hok (by
            simp only [Op.operands, List.mem_toArray, List.mem_map]
            exact ⟨p, hp, rfl⟩))
          unfold buildRows at he
          split at he
          · rename_i hzl
            cases hb : buildA ((List.replicate m ti.zero).flatten) (fun i => some (i * ti.size, ti.size)) (parts.toList.map fun p => (p.1, evA st.t p.2)) with
            | none => rw [hb] at he; cases he
            | some out =>
              rw [hb] at he
              simp only [Option.map_some, Option.some.injEq, Prod.mk.injEq] at he
              obtain ⟨rfl, rfl⟩ := he
              have hz2 : CR B ρ ok w (List.replicate m ti.zero).flatten ((Array.range (m * ti.size)).map (z.cells[· % z.cells.size]!)).toList := by
                rw [zeros_eq z.cells ti.size m h3 hc1]
                exact h2.replicate m
              obtain ⟨cs', f1, f2⟩ := fill_sound _ _ _ _ out p1 p2 hz2 hb
              have hol : out.length = m * ti.size := by
                rw [buildA_length hb, flatten_length (s := ti.size) (fun r hr => by rw [List.eq_of_mem_replicate hr]; exact hzl)]; simp
              have hm : m ≤ m * ti.size := Nat.le_mul_of_pos_right _ hc1
              obtain ⟨g1, g2⟩ := alloc_row R.heap hid hfree (e := ⟨el, ti.size, chunk ti.size m out⟩) (cs := cs') hc1 (chunk_rows _ _ _ hol) (by simp only [chunk_length, maxLen]; omega) (by simpa [chunk_flatten _ _ _ hol] using f2) (Or.inr trivial)
              refine ⟨.slice (some ⟨w.heap.size, 0, none⟩) m m, _, _, ?_, g1, ?_, g2⟩
              · have hne : ¬ (m * ti.size > 2 ^ 24) := by omega
                by_cases hm0 : m * ti.size = 0
                · have hmz : m = 0 := by
                    rcases Nat.eq_zero_or_pos m with h0 | h0
                    · exact h0
                    · have := Nat.mul_pos h0 hc1; omega
                  subst hmz
                  have hf' : Instr.fill (fun i => some (i * ti.size, ti.size)) #[] (parts.map fun (i, x) => (i, a.eval x)).toList = some cs' := by
                    simpa [Array.range_zero'] using f1
                  have hf2 : Instr.fill (fun i => some (i * ti.size, ti.size)) #[] (List.map (fun (p : Nat × Operand) => (p.1, a.eval p.2)) parts.toList) = some cs' := by simpa using hf'
                  simp [Instr.buildSlice, run_underlying hu, run_sizeOf hti, newRow, Array.range_zero', hf2]
                · have hf2 : Instr.fill (fun i => some (i * ti.size, ti.size)) ((Array.range (m * ti.size)).map (z.cells[· % z.cells.size]!)) (List.map (fun (p : Nat × Operand) => (p.1, a.eval p.2)) parts.toList) = some cs' := by simpa using f1
                  simp [Instr.buildSlice, run_underlying hu, run_sizeOf hti, newRow, hm0, h1, hf2]
                  omega
              · have hp : upd ρ id (some (some (w.heap.size, (chunk ti.size m out).length, ti.size))) id = some (some (w.heap.size, m, ti.size)) := by rw [upd_same, chunk_length]
                have := V.own (B := B) (ok := ok) (w := w.alloc (.cells cs' el)) (o := 0) (n := m) hp (by omega) (by simp only [maxLen]; omega)
                simpa using this
          · cases he
        · cases he
    · cases he
  · -- makeSlice
    rename_i ty l c
    split at he
    · rename_i el m m' htk hl hc
      have hu := tk_slice htk
      cases hti : tiOf P el with
      | none => rw [hti] at he; cases he
      | some ti =>
        rw [hti] at he
        simp only [Option.bind_some] at he
        split at he
        · rename_i hcc
          obtain ⟨hc1, hzl, rfl, hc2, hc3⟩ := hcc
          cases he
          obtain ⟨z, h1, h2, h3, i, q1, q2, q3, q4⟩ := zc hti
          obtain ⟨kl, hlv⟩ := V_natOf (ev l (opd hok (by simp [Op.operands]))) hl
          obtain ⟨kc, hcv⟩ := V_natOf (ev c (opd hok (by simp [Op.operands]))) hc
          have hz2 : CR B ρ ok w (List.replicate m ti.zero).flatten ((Array.range (m * ti.size)).map (z.cells[· % z.cells.size]!)).toList := by
            rw [zeros_eq z.cells ti.size m h3 hc1]
            exact h2.replicate m
          obtain ⟨g1, g2⟩ := alloc_row R.heap hid hfree (e := ⟨el, ti.size, List.replicate m ti.zero⟩) (cs := (Array.range (m * ti.size)).map (z.cells[· % z.cells.size]!)) hc1 (fun r hr => by rw [List.eq_of_mem_replicate hr]; exact hzl) (by simp only [List.length_replicate, maxLen]; omega) hz2 (Or.inr trivial)
          refine ⟨.slice (some ⟨w.heap.size, 0, none⟩) m m, _, _, ?_, g1, ?_, g2⟩
          · have hby : (i.bytes : Int) * (m : Int) ≤ 281474976710656 := by
              have : i.bytes * m ≤ 1000 * 1000000 := Nat.mul_le_mul (by omega) hc2
              have e : ((i.bytes * m : Nat) : Int) = (i.bytes : Int) * (m : Int) := by simp
              omega
            have hr := run_make (P := P) w ty el i z hu q1 q2 kl kc (m : Int) (m : Int) (by omega) (Int.le_refl _) hby (by omega)
            simp only [Int.toNat_natCast, q3] at hr
            simp [hlv, hcv, hr, madeCells]
          · have hp : upd ρ id (some (some (w.heap.size, (List.replicate m ti.zero).length, ti.size))) id = some (some (w.heap.size, m, ti.size)) := by rw [upd_same, List.length_replicate]
            have := V.own (B := B) (ok := ok) (w := w.alloc (.cells ((Array.range (m * ti.size)).map (z.cells[· % z.cells.size]!)) el)) (o := 0) (n := m) hp (by omega) (by simp only [maxLen]; omega)
            simpa using this
        · cases he
    · cases he
  · cases he

end
end Go.Proofs.Ytdjdjnmccphbjaa.E
