/- EngC: how values stay while the world goes on; types. -/
import Derived.Test.YtdjdjnmccphbjaaEngB
namespace Go.Proofs.Ytdjdjnmccphbjaa.E
open Go.RowKit

theorem cell_same {w w' : World} {b o : Nat} (h : w'.heap[b]? = w.heap[b]?) : w'.cell? ⟨b, o, none⟩ = w.cell? ⟨b, o, none⟩ := World.cell?_of_block (w := w) h

theorem PV.mono {F F' : Nat → Prop} {w w' : World} {a : AV} {v : Value} (h : PV F w a v) (hF : ∀ b, F b → F' b ∧ w'.heap[b]? = w.heap[b]?) : PV F' w' a v := by
  induction h with
  | «at» h => exact .at h
  | nl => exact .nl
  | lst h1 h2 h3 h4 h5 h6 h7 _ ih =>
    refine .lst h1 h2 h3 h4 h5 h6 (fun ad e hn => ?_) ih
    obtain ⟨g1, g2, g3⟩ := h7 ad e hn
    refine ⟨g1, (hF _ g2).1, fun j u hj => ?_⟩
    rw [cell_same (hF _ g2).2]
    exact g3 j u hj

theorem PV.V {B : Nat} {ρ : Nat → Option Place} {ok : Nat → Prop} {w : World} {a : AV} {v : Value} (h : PV ok w a v) : V B ρ ok w a v := by
  cases h with
  | «at» h => exact .at h
  | nl => exact .nl
  | lst h1 h2 h3 h4 h5 h6 h7 h8 =>
    exact .lst (PV.mono (PV.lst h1 h2 h3 h4 h5 h6 h7 h8) (fun b hb => ⟨⟨hb, fun e => by cases e⟩, rfl⟩))

theorem V.mono {B : Nat} {ρ ρ' : Nat → Option Place} {ok ok' : Nat → Prop} {w w' : World} {a : AV} {v : Value} (h : V B ρ ok w a v) (hρ : ∀ i, ρ i ≠ none → ρ' i = ρ i)
    (hF : ∀ b, ok b → ok' b ∧ w'.heap[b]? = w.heap[b]?) : V B ρ' ok' w' a v := by
  induction h with
  | und => exact .und
  | nilv => exact .nilv
  | nn h => exact .nn h
  | «at» h => exact .at h
  | nl => exact .nl
  | lst h => exact .lst (h.mono fun b ⟨hb, hf⟩ => ⟨⟨(hF b hb).1, hf⟩, (hF b hb).2⟩)
  | rp h1 h2 h3 h4 h5 =>
    refine .rp (hF _ h1).1 h2 h3 (fun j u hj => ?_) (fun j c u hc hu => (h5 j c u hc hu).mono hF)
    rw [cell_same (hF _ h1).2]
    exact h4 j u hj
  | own0 h => exact .own0 ((hρ _ (by rw [h]; simp)).trans h)
  | own h h1 h2 => exact .own ((hρ _ (by rw [h]; simp)).trans h) h1 h2
  | ptr h => exact .ptr ((hρ _ (by rw [h]; simp)).trans h)
  | agg h1 h2 _ ih => exact .agg h1 h2 ih
  | tup h1 _ ih => exact .tup h1 ih
  | fn h1 _ ih => exact .fn h1 ih

theorem V.ext {B : Nat} {U : Nat → Prop} {ρ ρ' : Nat → Option Place} {ok ok' : Nat → Prop} {w w' : World} {a : AV} {v : Value} (h : V B ρ ok w a v) (x : Ext U ρ ρ' ok ok' w w') : V B ρ' ok' w' a v :=
  h.mono x.keep x.stay

theorem Ext.refl (U : Nat → Prop) (ρ : Nat → Option Place) (ok : Nat → Prop) (w : World) : Ext U ρ ρ ok ok w w := ⟨fun _ _ => rfl, fun _ _ => rfl, fun _ h => ⟨h, rfl⟩, fun _ h => Or.inl h, Nat.le_refl _⟩
theorem Ext.trans {U : Nat → Prop} {r1 r2 r3 : Nat → Option Place} {o1 o2 o3 : Nat → Prop} {w1 w2 w3 : World} (x : Ext U r1 r2 o1 o2 w1 w2) (y : Ext U r2 r3 o2 o3 w2 w3) : Ext U r1 r3 o1 o3 w1 w3 := by
  refine ⟨fun i h => (y.pl i h).trans (x.pl i h), fun i h => ?_, fun b h => ?_, fun b h => ?_, Nat.le_trans x.size y.size⟩
  · rw [y.keep i (by rw [x.keep i h]; exact h), x.keep i h]
  · have := x.stay b h; have g := y.stay b this.1; exact ⟨g.1, g.2.trans this.2⟩
  · rcases y.new b h with h | h
    · exact x.new b h
    · exact Or.inr (Nat.le_trans x.size h)
theorem Ext.weaken {U U' : Nat → Prop} {r1 r2 : Nat → Option Place} {o1 o2 : Nat → Prop} {w1 w2 : World} (x : Ext U r1 r2 o1 o2 w1 w2) (h : ∀ i, U i → U' i) : Ext U' r1 r2 o1 o2 w1 w2 :=
  ⟨fun i hn => x.pl i (fun hu => hn (h i hu)), x.keep, x.stay, x.new, x.size⟩

/-! types -/
section
variable {P : Program} {t : TypeId}
theorem tk_slice {e : TypeId} (h : tkOf P t = .slice e) : P.underlying t = some (.slice e) := by
  unfold tkOf at h
  split at h <;> (try simp at h) <;> (try (split at h <;> cases h; done))
  subst h; assumption
theorem tk_array {n : Nat} {e : TypeId} (h : tkOf P t = .array n e) : P.underlying t = some (.array n e) := by
  unfold tkOf at h
  split at h <;> (try simp at h) <;> (try (split at h <;> cases h; done))
  obtain ⟨rfl, rfl⟩ := h; assumption
theorem tk_bool (h : tkOf P t = .bool) : P.underlying t = some .bool := by
  unfold tkOf at h
  split at h <;> (try simp at h) <;> (try (split at h <;> cases h; done))
  assumption
theorem tk_string (h : tkOf P t = .string) : P.underlying t = some .string := by
  unfold tkOf at h
  split at h <;> (try simp at h) <;> (try (split at h <;> cases h; done))
  assumption
theorem tk_struct {l : List (Nat × Nat)} (h : tkOf P t = .struct l) : ∃ fs : Array Field, P.underlying t = some (.struct fs) ∧
    fs.toList.mapM (fun f => (P.info? f.type).map fun i => (f.offset, i.size)) = some l := by
  unfold tkOf at h
  split at h <;> (try (simp at h; done))
  · rename_i fs hu
    split at h
    · rename_i l' hl
      simp at h
      subst h
      exact ⟨fs, hu, hl⟩
    · cases h
theorem mapM_get {α β : Type} {f : α → Option β} : ∀ {xs : List α} {ys : List β}, xs.mapM f = some ys → ∀ (k : Nat) (y : β), ys[k]? = some y → ∃ x, xs[k]? = some x ∧ f x = some y
  | [], ys, h, k, y, hk => by simp at h; subst h; simp at hk
  | x :: xs, ys, h, k, y, hk => by
    simp only [List.mapM_cons, Option.bind_eq_bind, Option.pure_def] at h
    cases hx : f x with
    | none => simp [hx] at h
    | some b =>
      cases hr : xs.mapM f with
      | none => simp [hx, hr] at h
      | some rest =>
        simp [hx, hr] at h
        subst h
        cases k with
        | zero => simp at hk; subst hk; exact ⟨x, rfl, hx⟩
        | succ k => exact mapM_get hr k y (by simpa using hk)
theorem ti_info {ti : TI} (h : tiOf P t = some ti) : ∃ i d z, P.info? t = some i ∧ P.underlying t = some d ∧ i.zero = some z ∧ ti.size = i.size ∧ ti.bytes = i.bytes ∧ ti.zero = zeroA z ∧
    ti.agg = (match d with | .struct _ => true | .array _ _ => true | _ => false) := by
  unfold tiOf at h
  split at h
  · rename_i i d h1 h2
    split at h
    · rename_i z hz
      split at h
      · simp at h
        subst h
        exact ⟨i, d, z, h1, h2, hz, rfl, rfl, rfl, rfl⟩
      · cases h
    · cases h
  · cases h
theorem run_isAgg {ti : TI} (h : tiOf P t = some ti) (w : World) : (isAgg t).run P w = .ok ti.agg w := by
  obtain ⟨i, d, z, h1, h2, h3, h4, h5, h6, h7⟩ := ti_info h
  unfold isAgg
  rw [Sem.run_bind, run_underlying h2 w, h7]
  cases d <;> rfl
theorem run_sizeOf {ti : TI} (h : tiOf P t = some ti) (w : World) : (sizeOf t).run P w = .ok ti.size w := by
  obtain ⟨i, d, z, h1, h2, h3, h4, h5, h6, h7⟩ := ti_info h
  simp [sizeOf, typeInfo, h1, h4]
end

theorem addr_add (b o k : Nat) : (⟨b, o, none⟩ : Addr).add k = ⟨b, o + k, none⟩ := by
  unfold Addr.add; split
  · rename_i h; subst h; rfl
  · rfl

/-- cells that lie at an address -/
def CellsAt (B : Nat) (ρ : Nat → Option Place) (ok : Nat → Prop) (w : World) (b off : Nat) (cells : List AV) : Prop :=
  ∃ us : List Value, us.length = cells.length ∧ (∀ u, u ∈ us → u.oneCell' = true) ∧ (∀ (j : Nat) (u : Value), us[j]? = some u → w.cell? ⟨b, off + j, none⟩ = some u) ∧
    ∀ (j : Nat) (c : AV) (u : Value), cells[j]? = some c → us[j]? = some u → V B ρ ok w c u

theorem CellsAt.drop {B : Nat} {ρ : Nat → Option Place} {ok : Nat → Prop} {w : World} {b off : Nat} {cells : List AV} (h : CellsAt B ρ ok w b off cells) (k : Nat) : CellsAt B ρ ok w b (off + k) (cells.drop k) := by
  obtain ⟨us, h1, h2, h3, h4⟩ := h
  refine ⟨us.drop k, by simp [h1], fun u hu => h2 u (List.mem_of_mem_drop hu), fun j u hj => ?_, fun j c u hc hu => ?_⟩
  · rw [List.getElem?_drop] at hj
    rw [Nat.add_assoc]
    exact h3 _ u hj
  · rw [List.getElem?_drop] at hc hu
    exact h4 _ c u hc hu
theorem CellsAt.take {B : Nat} {ρ : Nat → Option Place} {ok : Nat → Prop} {w : World} {b off : Nat} {cells : List AV} (h : CellsAt B ρ ok w b off cells) (k : Nat) : CellsAt B ρ ok w b off (cells.take k) := by
  obtain ⟨us, h1, h2, h3, h4⟩ := h
  refine ⟨us.take k, by simp [h1], fun u hu => h2 u (List.mem_of_mem_take hu), fun j u hj => ?_, fun j c u hc hu => ?_⟩
  · rw [List.getElem?_take] at hj
    split at hj
    · exact h3 _ u hj
    · cases hj
  · rw [List.getElem?_take] at hc hu
    split at hc
    · rename_i hlt
      rw [if_pos hlt] at hu
      exact h4 _ c u hc hu
    · cases hc

theorem cellsAt_rp {B : Nat} {ρ : Nat → Option Place} {ok : Nat → Prop} {w : World} {cells : List AV} {v : Value} (h : V B ρ ok w (.rp cells) v) : ∃ b off, v = .pointer (some ⟨b, off, none⟩) ∧ ok b ∧ CellsAt B ρ ok w b off cells := by
  cases h with
  | rp h1 h2 h3 h4 h5 => exact ⟨_, _, rfl, h1, _, h2, h3, h4, fun j c u hc hu => (h5 j c u hc hu).V⟩

theorem flatten_get {α : Type} {rows : List (List α)} {s k : Nat} {row : List α} (hs : ∀ r, r ∈ rows → r.length = s) (hk : rows[k]? = some row) {j : Nat} (hj : j < s) : rows.flatten[k * s + j]? = row[j]? := by
  induction rows generalizing k with
  | nil => simp at hk
  | cons r rows ih =>
    have hr := hs r (by simp)
    cases k with
    | zero =>
      simp at hk
      subst hk
      simp only [List.flatten_cons, Nat.zero_mul, Nat.zero_add]
      rw [List.getElem?_append_left (by omega)]
    | succ k =>
      simp only [List.flatten_cons]
      rw [List.getElem?_append_right (by rw [hr, Nat.succ_mul]; omega)]
      have e : (k + 1) * s + j - r.length = k * s + j := by rw [hr, Nat.succ_mul]; omega
      rw [e]
      exact ih (fun r hr => hs r (by simp [hr])) (by simpa using hk)

theorem flatten_length {α : Type} {rows : List (List α)} {s : Nat} (hs : ∀ r, r ∈ rows → r.length = s) : rows.flatten.length = rows.length * s := by
  induction rows with
  | nil => simp
  | cons r rows ih =>
    simp only [List.flatten_cons, List.length_append, List.length_cons]
    rw [ih (fun r hr => hs r (by simp [hr])), hs r (by simp), Nat.succ_mul]
    omega

/-- the cells of a row of one's own -/
theorem HRel.cellsAt {B : Nat} {W0 w : World} {ρ : Nat → Option Place} {ok : Nat → Prop} {h : Heap} {n : Nat} (H : HRel B W0 ρ ok h n w) {i : Nat} {e : HE} (he : h i = some e) {k : Nat} {row : List AV} (hk : e.rows[k]? = some row) :
    ∃ b cap, ρ i = some (some (b, cap, e.s)) ∧ row.length = e.s ∧ CellsAt B ρ ok w b (k * e.s) row := by
  rcases H.row i e he with ⟨_, h2⟩ | ⟨b, cap, cur, h1, h2, h3, h4, h5, h6, h7, h8, h9, hcr⟩
  · rw [h2] at hk; simp at hk
  · have h10 : ∀ (j : Nat) (c : AV), e.rows.flatten[j]? = some c → ∃ u, cur[j]? = some u ∧ u.oneCell' = true ∧ V B ρ ok w c u := by
      intro j c hc
      obtain ⟨q1, q2, q3⟩ := hcr
      have hjl := (List.getElem?_eq_some_iff.1 hc).1
      obtain ⟨u, hu⟩ : ∃ u, (cur.toList.take (e.rows.length * e.s))[j]? = some u := ⟨_, List.getElem?_eq_getElem (by omega)⟩
      refine ⟨u, ?_, q2 u (List.mem_of_getElem? hu), q3 j c u hc hu⟩
      rw [List.getElem?_take] at hu
      split at hu
      · simpa using hu
      · cases hu
    have hl := h9 row (List.mem_of_getElem? hk)
    refine ⟨b, cap, h1, hl, (cur.toList.drop (k * e.s)).take e.s, ?_, ?_, ?_, ?_⟩
    · have hkl : k < e.rows.length := (List.getElem?_eq_some_iff.1 hk).1
      have : (k + 1) * e.s ≤ cap * e.s := Nat.mul_le_mul_right _ (by omega)
      rw [Nat.succ_mul] at this
      simp only [List.length_take, List.length_drop, Array.length_toList]
      omega
    · intro u hu
      obtain ⟨j, hj⟩ := List.mem_iff_getElem?.1 hu
      rw [List.getElem?_take] at hj
      split at hj
      · rename_i hjs
        rw [List.getElem?_drop] at hj
        obtain ⟨c, hc⟩ : ∃ c, row[j]? = some c := ⟨row[j]'(by omega), by simp⟩
        obtain ⟨u', g1, g2, _⟩ := h10 (k * e.s + j) c ((flatten_get h9 hk hjs).trans hc)
        simp only [Array.getElem?_toList] at hj
        rw [g1] at hj; cases hj; exact g2
      · cases hj
    · intro j u hj
      rw [List.getElem?_take] at hj
      split at hj
      · rw [List.getElem?_drop] at hj
        simp only [World.cell?, h4]
        simpa using hj
      · cases hj
    · intro j c u hc hu
      rw [List.getElem?_take] at hu
      split at hu
      · rename_i hjs
        rw [List.getElem?_drop] at hu
        obtain ⟨u', g1, _, g3⟩ := h10 (k * e.s + j) c ((flatten_get h9 hk hjs).trans hc)
        simp only [Array.getElem?_toList] at hu
        rw [g1] at hu; cases hu; exact g3
      · cases hu

/-- a load of cells that are known -/
theorem load_cells {P : Program} {B : Nat} {ρ : Nat → Option Place} {ok : Nat → Prop} {w : World} {b off : Nat} {cells : List AV} (h : CellsAt B ρ ok w b off cells) {t : TypeId} {ti : TI} (ht : tiOf P t = some ti) {o : Nat} {r : AV} (hr : takeA ti cells o = some r) :
    ∃ v, (loadVar t ⟨b, off + o, none⟩).run P w = .ok v w ∧ V B ρ ok w r v := by
  unfold takeA at hr
  split at hr
  · rename_i hle
    unfold loadVar
    rw [Sem.run_bind, run_isAgg ht]
    obtain ⟨us, h1, h2, h3, h4⟩ := h.drop o
    split at hr
    · rename_i hag
      simp only [Option.some.injEq] at hr
      subst hr
      simp only [Result.andThen_ok, hag, if_true, Sem.run_bind, run_sizeOf ht]
      have hl : (us.take ti.size).length = ti.size := by simp [h1]; omega
      have := run_loadCells_list (P := P) w ⟨b, off + o, none⟩ (us.take ti.size) (fun j v hj => by
        rw [addr_add]
        rw [List.getElem?_take] at hj
        split at hj
        · exact h3 j v hj
        · cases hj)
      rw [hl] at this
      rw [this]
      refine ⟨_, rfl, .agg (by simp [h1]) (fun u hu => h2 u (List.mem_of_mem_take hu)) (fun j c u hc hu => ?_)⟩
      rw [List.getElem?_take] at hc hu
      split at hc
      · rename_i hlt
        rw [if_pos hlt] at hu
        exact h4 j c u hc hu
      · cases hc
    · rename_i hag
      have hag' : ti.agg = false := by simpa using hag
      simp only [Result.andThen_ok, hag', Bool.false_eq_true, if_false]
      have hlt : o < cells.length := (List.getElem?_eq_some_iff.1 hr).1
      obtain ⟨u, hu⟩ : ∃ u, us[0]? = some u := ⟨us[0]'(by rw [h1]; simp; omega), by simp⟩
      have hc := h3 0 u hu
      refine ⟨u, ?_, h4 0 r u (by rw [List.getElem?_drop]; exact hr) hu⟩
      simp only [Nat.add_zero] at hc
      simp [load, Sem.run, hc]
  · cases hr

end Go.Proofs.Ytdjdjnmccphbjaa.E
