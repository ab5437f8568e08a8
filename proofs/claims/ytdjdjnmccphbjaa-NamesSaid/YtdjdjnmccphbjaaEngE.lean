/- EngE: the other operations that reckon or read. -/
import Derived.Test.YtdjdjnmccphbjaaEngD
namespace Go.Proofs.Ytdjdjnmccphbjaa.E
open Go.RowKit

section
variable {P : Program} {B : Nat} {W0 : World} {ρ : Nat → Option Place} {ok : Nat → Prop} {w : World} {h : Heap} {n : Nat}

theorem load_sound (H : HRel B W0 ρ ok h n w) {t : TypeId} {x r : AV} {u : Value} (hx : V B ρ ok w x u) (e : loadA P h t x = some r) : ∃ z, (Instr.loadAt t u).run P w = .ok z w ∧ V B ρ ok w r z := by
  unfold loadA at e
  split at e
  · cases e
  · rename_i ti hti
    split at e
    · obtain ⟨b, off, rfl, -, hc⟩ := cellsAt_rp hx
      obtain ⟨v, h1, h2⟩ := load_cells hc hti e
      exact ⟨v, by simpa [Instr.loadAt, Instr.sureAddr] using h1, h2⟩
    · rename_i i s r0 o
      split at e
      · rename_i en hen
        split at e
        · rename_i hs
          split at e
          · rename_i row hrow
            obtain ⟨b, cap, hρ, hl, hc⟩ := H.cellsAt hen hrow
            cases hx with
            | ptr hp =>
              rename_i b' cap'
              have : ρ i = some (some (b', cap', s)) := hp
              rw [this] at hρ
              simp only [Option.some.injEq, Prod.mk.injEq] at hρ
              obtain ⟨rfl, rfl, hs'⟩ := hρ
              subst hs'
              obtain ⟨v, h1, h2⟩ := load_cells hc hti e
              exact ⟨v, by simpa [Instr.loadAt, Instr.sureAddr] using h1, h2⟩
          · cases e
        · cases e
      · cases e
    · cases e

theorem rows_size {rows : List (List AV)} {s : Nat} {k : Nat} {row : List AV} (hs : ∀ r, r ∈ rows → r.length = s) (hk : rows[k]? = some row) : row.length = s := hs row (List.mem_of_getElem? hk)

theorem indexAddr_sound (H : HRel B W0 ρ ok h n w) {t : TypeId} {x ix r : AV} {u ui : Value} (hx : V B ρ ok w x u) (hi : V B ρ ok w ix ui) (e : indexAddrA P h t x ix = some r) : ∃ z, (Instr.indexAt t u ui).run P w = .ok z w ∧ V B ρ ok w r z := by
  unfold indexAddrA at e
  split at e
  · cases e
  · rename_i k hk
    obtain ⟨kd, rfl⟩ := V_natOf hi hk
    split at e
    · rename_i el htk
      have hu := tk_slice htk
      split at e
      · cases e
      · rename_i ti hti
        split at e
        · rename_i fr s rows
          split at e
          · rename_i hs
            cases hrow : rows[k]? with
            | none => rw [hrow] at e; cases e
            | some row =>
              rw [hrow] at e
              cases e
              have hkl : k < rows.length := (List.getElem?_eq_some_iff.1 hrow).1
              cases hx with
              | lst hp =>
                cases hp with
                | lst g1 g2 g3 g4 g5 g6 g7 g8 =>
                  rename_i a cap us
                  have hrs := rows_size g1 hrow
                  cases a with
                  | none => have := (g4 rfl).1; subst this; simp at hkl
                  | some ad =>
                    obtain ⟨b, off, sp⟩ := ad
                    obtain ⟨q1, q2, q3⟩ := g7 _ rfl (by intro e; subst e; simp at hkl)
                    simp only at q1 q2 q3
                    subst q1
                    refine ⟨.pointer (some ⟨b, off + k * s, none⟩), ?_, .rp q2.1 (us := (us.drop (k * s)).take s) ?_ ?_ ?_ ?_⟩
                    · simp [Instr.indexAt, asIntOf, run_underlying hu, hkl, run_sizeOf hti, addr_add, hs]
                    · have : (k + 1) * s ≤ rows.length * s := Nat.mul_le_mul_right _ (by omega)
                      rw [Nat.succ_mul] at this
                      rw [flatten_length g1] at g5
                      simp only [List.length_take, List.length_drop]
                      omega
                    · exact fun u hu => g6 u (List.mem_of_mem_drop (List.mem_of_mem_take hu))
                    · intro j u hj
                      rw [List.getElem?_take] at hj
                      split at hj
                      · rw [List.getElem?_drop] at hj
                        rw [Nat.add_assoc]
                        exact q3 _ u hj
                      · cases hj
                    · intro j c u hc hu
                      rw [List.getElem?_take] at hu
                      split at hu
                      · rename_i hjs
                        rw [List.getElem?_drop] at hu
                        exact (g8 _ c u ((flatten_get g1 hrow hjs).trans hc) hu).mono fun b hb => ⟨hb.1, rfl⟩
                      · cases hu
          · cases e
        · rename_i i o m
          split at e
          · rename_i en hen
            split at e
            · rename_i hc
              obtain ⟨hs, hkm, hle⟩ := hc
              cases e
              cases hx with
              | own0 => omega
              | own hp g1 g2 =>
                rename_i b cap s
                rcases H.row i en hen with ⟨q, _⟩ | ⟨b', cap', cur, q, _⟩
                · rw [hp] at q; cases q
                · rw [hp] at q
                  simp only [Option.some.injEq, Prod.mk.injEq] at q
                  obtain ⟨rfl, rfl, rfl⟩ := q
                  refine ⟨_, ?_, .ptr hp⟩
                  have e1 : o * en.s + k * en.s = (o + k) * en.s + 0 := by rw [Nat.add_mul, Nat.add_zero]
                  simp [Instr.indexAt, asIntOf, run_underlying hu, hkm, run_sizeOf hti, addr_add, ← hs, e1]
            · cases e
          · cases e
        · cases e
    · rename_i m el htk
      have hu := tk_array htk
      split at e
      · cases e
      · rename_i ti hti
        split at e
        · rename_i i s r0 o
          split at e
          · rename_i hkm
            cases e
            cases hx with
            | ptr hp =>
              refine ⟨_, ?_, .ptr hp⟩
              simp [Instr.indexAt, asIntOf, run_underlying hu, hkm, run_sizeOf hti, addr_add, Instr.sureAddr, Nat.add_assoc]
          · cases e
        · cases e
    · cases e

theorem part_sound {t : TypeId} {ti : TI} (hti : tiOf P t = some ti) {cs : List AV} {vs : List Value} (h1 : cs.length = vs.length) (h2 : ∀ u, u ∈ vs → u.oneCell' = true)
    (h3 : ∀ (j : Nat) (c : AV) (u : Value), cs[j]? = some c → vs[j]? = some u → V B ρ ok w c u) {o : Nat} {r : AV} (e : takeA ti cs o = some r) : ∃ z, (part t vs.toArray o).run P w = .ok z w ∧ V B ρ ok w r z := by
  unfold takeA at e
  split at e
  · rename_i hle
    split at e
    · rename_i hag
      cases e
      refine ⟨.agg (vs.toArray.extract o (o + ti.size)), by simp [part, run_isAgg hti, hag, run_sizeOf hti], ?_⟩
      have e2 : vs.toArray.extract o (o + ti.size) = ((vs.drop o).take ti.size).toArray := by simp [List.extract_eq_take_drop]
      rw [e2]
      refine .agg (by simp [h1]) (fun u hu => h2 u (List.mem_of_mem_drop (List.mem_of_mem_take hu))) (fun j c u hc hu => ?_)
      rw [List.getElem?_take] at hc hu
      split at hc
      · rename_i hlt
        rw [if_pos hlt, List.getElem?_drop] at hu
        rw [List.getElem?_drop] at hc
        exact h3 _ c u hc hu
      · cases hc
    · rename_i hag
      have hag' : ti.agg = false := by simpa using hag
      obtain ⟨z, hz⟩ : ∃ z, vs[o]? = some z := ⟨vs[o]'(by have := (List.getElem?_eq_some_iff.1 e).1; omega), by simp⟩
      exact ⟨z, by simp [part, run_isAgg hti, hag', hz], h3 o r z e hz⟩
  · cases e

theorem index_sound {t : TypeId} {x ix r : AV} {u ui : Value} (hx : V B ρ ok w x u) (hi : V B ρ ok w ix ui) (e : indexA P t x ix = some r) : ∃ z, (Instr.index t u ui).run P w = .ok z w ∧ V B ρ ok w r z := by
  unfold indexA at e
  split at e
  · cases e
  · rename_i k hk
    obtain ⟨kd, rfl⟩ := V_natOf hi hk
    split at e
    · rename_i m el cs htk
      have hu := tk_array htk
      split at e
      · cases e
      · rename_i ti hti
        split at e
        · rename_i hkm
          cases hx with
          | agg h1 h2 h3 =>
            obtain ⟨z, g1, g2⟩ := part_sound (P := P) hti h1 h2 h3 e
            exact ⟨z, by simp [Instr.index, asIntOf, run_underlying hu, hkm, run_sizeOf hti, g1], g2⟩
        · cases e
    · rename_i s htk
      have hu := tk_string htk
      cases V_at hx
      cases hs : s[k]? with
      | none => rw [hs] at e; cases e
      | some b =>
        rw [hs] at e
        cases e
        exact ⟨_, by simp [Instr.index, asIntOf, run_underlying hu, hs], .at rfl⟩
    · cases e

theorem len_sound {x : AV} {u : Value} {m : Nat} {t ty : TypeId} (hx : V B ρ ok w x u) (e : lenA (tkOf P t) x = some m) :
    ∃ z, (Builtin.len_ #[t] ty #[u]).run P w = .ok z w ∧ V B ρ ok w (.at (.int .i64 m)) z := by
  unfold lenA at e
  split at e
  · rename_i hk
    cases e
    cases hx
    exact ⟨_, by simp [Builtin.len_, run_underlying (tk_slice hk), goInt], .at rfl⟩
  · rename_i hk
    cases e
    cases hx with
    | lst hp =>
      cases hp
      exact ⟨_, by simp [Builtin.len_, run_underlying (tk_slice hk), goInt], .at rfl⟩
  · rename_i hk
    cases e
    cases hx <;> exact ⟨_, by simp [Builtin.len_, run_underlying (tk_slice hk), goInt], .at rfl⟩
  · rename_i hk
    cases e
    cases V_at hx
    exact ⟨_, by simp [Builtin.len_, run_underlying (tk_string hk), goInt], .at rfl⟩
  · cases e

theorem flatten_take {α : Type} {rows : List (List α)} {s : Nat} (hs : ∀ r, r ∈ rows → r.length = s) (m : Nat) : (rows.take m).flatten = rows.flatten.take (m * s) := by
  induction rows generalizing m with
  | nil => simp
  | cons r rows ih =>
    cases m with
    | zero => simp
    | succ m =>
      have hr := hs r (by simp)
      simp only [List.take_succ_cons, List.flatten_cons]
      have e1 : r.take ((m + 1) * s) = r := List.take_of_length_le (by rw [hr, Nat.succ_mul]; omega)
      have e2 : (m + 1) * s - r.length = m * s := by rw [hr, Nat.succ_mul]; omega
      rw [ih (fun r hr => hs r (by simp [hr])), List.take_append, e1, e2]
theorem flatten_drop {α : Type} {rows : List (List α)} {s : Nat} (hs : ∀ r, r ∈ rows → r.length = s) (m : Nat) : (rows.drop m).flatten = rows.flatten.drop (m * s) := by
  induction rows generalizing m with
  | nil => simp
  | cons r rows ih =>
    cases m with
    | zero => simp
    | succ m =>
      have hr := hs r (by simp)
      simp only [List.drop_succ_cons, List.flatten_cons]
      have e1 : r.drop ((m + 1) * s) = [] := List.drop_of_length_le (by rw [hr, Nat.succ_mul]; omega)
      have e2 : (m + 1) * s - r.length = m * s := by rw [hr, Nat.succ_mul]; omega
      rw [ih (fun r hr => hs r (by simp [hr])), List.drop_append, e1, e2, List.nil_append]

/-- a piece of a slice that is read -/
theorem PV.cut {F : Nat → Prop} {s : Nat} {rows : List (List AV)} {a : Option Addr} {k cap l m : Nat} (h : PV F w (.lst false s rows) (.slice a k cap)) (hl : l ≤ m) (hm : m ≤ rows.length) :
    PV F w (.lst false s ((rows.take m).drop l)) (.slice (if cap = l then a else a.map (·.add (l * s))) (m - l) (cap - l)) := by
  cases h with
  | lst g1 g2 g3 g4 g5 g6 g7 g8 =>
    rename_i us
    have hlen : ((rows.take m).drop l).length = m - l := by simp; omega
    have hs' : ∀ r, r ∈ rows.take m → r.length = s := fun r hr => g1 r (List.mem_of_mem_take hr)
    have hfl : ((rows.take m).drop l).flatten = (rows.flatten.take (m * s)).drop (l * s) := by rw [flatten_drop hs', flatten_take g1]
    rw [← hlen]
    refine .lst (us := (us.take (m * s)).drop (l * s)) (fun r hr => hs' r (List.mem_of_mem_drop hr)) (by omega) (by omega) (fun e => ?_) ?_ (fun u hu => g6 u (List.mem_of_mem_take (List.mem_of_mem_drop hu))) (fun ad e hn => ?_) (fun j c u hc hu => ?_)
    · cases a with
      | none =>
        obtain ⟨q1, q2⟩ := g4 rfl
        subst q1
        exact ⟨by simp, by omega⟩
      | some ad => split at e <;> cases e
    · rw [hfl]; simp [g5]
    · have hne : rows ≠ [] := by intro e; subst e; simp at hn
      have hcl : cap ≠ l := by
        intro e; subst e
        apply hn
        apply List.eq_nil_of_length_eq_zero
        omega
      rw [if_neg hcl] at e
      cases a with
      | none => cases e
      | some ad0 =>
        obtain ⟨q1, q2, q3⟩ := g7 ad0 rfl hne
        obtain ⟨b, off, sp⟩ := ad0
        simp only at q1
        subst q1
        simp only [Option.map_some, addr_add] at e
        cases e
        refine ⟨rfl, q2, fun j u hj => ?_⟩
        rw [List.getElem?_drop, List.getElem?_take] at hj
        split at hj
        · simp only at q3 ⊢
          rw [Nat.add_assoc]
          exact q3 _ u hj
        · cases hj
    · rw [hfl, List.getElem?_drop, List.getElem?_take] at hc
      rw [List.getElem?_drop, List.getElem?_take] at hu
      split at hc
      · rename_i hlt
        rw [if_pos hlt] at hu
        exact g8 _ c u hc hu
      · cases hc

theorem optBound {lo : Option AV} {lov : Option Value} {d l : Nat} (h : lo.elim (some d) natOf = some l) (hv : ∀ x, lo = some x → ∃ v, lov = some v ∧ V B ρ ok w x v) (hn : lo = none → lov = none) :
    (lov = none ∧ l = d) ∨ ∃ kd, lov = some (.int kd (l : Int)) := by
  cases lo with
  | none => simp at h; exact Or.inl ⟨hn rfl, h.symm⟩
  | some x =>
    obtain ⟨v, rfl, hx⟩ := hv x rfl
    obtain ⟨kd, rfl⟩ := V_natOf hx h
    exact Or.inr ⟨kd, rfl⟩

theorem run_sliceBounds {len cap l m : Nat} {lov hiv : Option Value} (h1 : (lov = none ∧ l = 0) ∨ ∃ kd, lov = some (.int kd (l : Int))) (h2 : (hiv = none ∧ m = len) ∨ ∃ kd, hiv = some (.int kd (m : Int))) (hl : l ≤ m) (hm : m ≤ cap) (w : World) :
    (Instr.sliceBounds true len cap lov hiv none).run P w = .ok (l, m, cap) w := by
  rcases h1 with ⟨rfl, rfl⟩ | ⟨k1, rfl⟩ <;> rcases h2 with ⟨rfl, rfl⟩ | ⟨k2, rfl⟩ <;>
    simp [Instr.sliceBounds, Instr.sliceBound, asIntOf] <;> (try simp [hl, hm]) <;> (try (intro hh; omega)) <;> (try (refine ⟨?_, ?_⟩ <;> intro hh <;> omega))

theorem slice_sound (H : HRel B W0 ρ ok h n w) {t e : TypeId} {ti : TI} {x r : AV} {u : Value} {lo hi mx : Option AV} {lov hiv mxv : Option Value} (hk : tkOf P t = .slice e) (hti : tiOf P e = some ti) (hx : V B ρ ok w x u)
    (hlo : ∀ x, lo = some x → ∃ v, lov = some v ∧ V B ρ ok w x v) (hlo' : lo = none → lov = none)
    (hhi : ∀ x, hi = some x → ∃ v, hiv = some v ∧ V B ρ ok w x v) (hhi' : hi = none → hiv = none)
    (hmx : ∀ x, mx = some x → ∃ v, mxv = some v ∧ V B ρ ok w x v) (hmx' : mx = none → mxv = none)
    (he : sliceA h ti.size x lo hi mx = some r) : ∃ z, (Instr.sliceAt t u lov hiv mxv).run P w = .ok z w ∧ V B ρ ok w r z := by
  have hu := tk_slice hk
  unfold sliceA at he
  split at he
  · rename_i m
    obtain ⟨mv, rfl, hmv⟩ := hmx m rfl
    split at he
    · rename_i hi0 hz
      obtain ⟨hv, rfl, hhv⟩ := hhi _ rfl
      have hlo0 : lov = none := hlo' rfl
      subst hlo0
      split at he
      · rename_i h0
        obtain ⟨k1, rfl⟩ := V_natOf hmv hz
        obtain ⟨k2, rfl⟩ := V_natOf hhv h0
        have key : ∀ a len cap, ∃ z, (Instr.sliceAt t (.slice a len cap) none (some (.int k2 ((0 : Nat) : Int))) (some (.int k1 ((0 : Nat) : Int)))).run P w = .ok z w ∧ V B ρ ok w .nl z := by
          intro a len cap
          refine ⟨.slice a 0 0, ?_, .nl⟩
          simp [Instr.sliceAt, Instr.slice, run_underlying hu, Instr.sliceBounds, Instr.sliceBound, asIntOf, run_sizeOf hti]
        split at he
        · cases he; cases hx; exact key _ _ _
        · cases he
          cases hx with
          | lst hp => cases hp; exact key _ _ _
        · cases he
          cases hx <;> exact key _ _ _
        · cases he
      · cases he
    · cases he
  · have hmx0 : mxv = none := hmx' rfl
    subst hmx0
    split at he
    · split at he
      · rename_i h1 h2
        cases he
        cases hx
        rename_i a
        have b1 := optBound h1 hlo hlo'
        have b2 := optBound h2 hhi hhi'
        have := run_sliceBounds (P := P) (len := 0) (cap := 0) b1 b2 (Nat.le_refl _) (Nat.le_refl _) w
        exact ⟨.slice a 0 0, by simp [Instr.sliceAt, Instr.slice, run_underlying hu, this, run_sizeOf hti], .nl⟩
      · cases he
    · rename_i fr s rows
      split at he
      · rename_i l m h1 h2
        split at he
        · rename_i hc
          obtain ⟨rfl, hl, hm⟩ := hc
          cases he
          cases hx with
          | lst hp =>
            have hp0 := hp
            cases hp with
            | lst g1 g2 g3 g4 g5 g6 g7 g8 =>
              rename_i a cap us
              have b1 := optBound h1 hlo hlo'
              have b2 := optBound h2 hhi hhi'
              have := run_sliceBounds (P := P) (len := rows.length) (cap := cap) b1 b2 hl (by omega) w
              exact ⟨_, by simp [Instr.sliceAt, Instr.slice, run_underlying hu, this, run_sizeOf hti], .lst (hp0.cut hl hm)⟩
        · cases he
      · cases he
    · rename_i i o k
      split at he
      · rename_i l m en h1 h2 hen
        split at he
        · rename_i hc
          obtain ⟨hs, hl, hm⟩ := hc
          have b1 := optBound h1 hlo hlo'
          have b2 := optBound h2 hhi hhi'
          cases hx with
          | own0 hp =>
            have hm0 : m = 0 := by omega
            have hl0 : l = 0 := by omega
            subst hm0; subst hl0
            simp at he
            cases he
            rename_i a
            have := run_sliceBounds (P := P) (len := 0) (cap := 0) b1 b2 (Nat.le_refl _) (Nat.le_refl _) w
            exact ⟨.slice a 0 0, by simp [Instr.sliceAt, Instr.slice, run_underlying hu, this, run_sizeOf hti], .own0 hp⟩
          | own hp q1 q2 =>
            rename_i b cap s
            have hse : s = en.s := by
              rcases H.row i en hen with ⟨q, _⟩ | ⟨b', cap', cur, q, _⟩
              · rw [hp] at q; cases q
              · rw [hp] at q
                simp only [Option.some.injEq, Prod.mk.injEq] at q
                exact q.2.2
            have hrun := run_sliceBounds (P := P) (len := k) (cap := cap - o) b1 b2 hl (by omega) w
            have hrun2 : (Instr.sliceAt t (.slice (some ⟨b, o * s, none⟩) k (cap - o)) lov hiv none).run P w = .ok (.slice (if cap - o = l then some ⟨b, o * s, none⟩ else some ⟨b, o * s + l * ti.size, none⟩) (m - l) (cap - o - l)) w := by
              simp [Instr.sliceAt, Instr.slice, run_underlying hu, hrun, run_sizeOf hti, addr_add]
            refine ⟨_, hrun2, ?_⟩
            split at he
            · rename_i hlm
              obtain ⟨rfl, hl0⟩ := hlm
              cases he
              rw [Nat.sub_self]
              exact .lst (PV.lst (us := []) (rows := []) (by simp) (by simp) (by omega) (fun e => by split at e <;> cases e) (by simp) (by simp) (fun _ _ hn => absurd rfl hn) (by simp))
            · rename_i hlm
              cases he
              have e1 : cap - o - l = cap - (o + l) := by omega
              rw [e1]
              split
              · rename_i hcl
                have : l = 0 := by omega
                subst this
                have hm0 : m = 0 := by omega
                subst hm0
                exact .own hp (by omega) q2
              · rw [← hs, ← hse, ← Nat.add_mul]
                exact .own hp (by omega) q2
        · cases he
      · cases he
    · cases he

end
end Go.Proofs.Ytdjdjnmccphbjaa.E
