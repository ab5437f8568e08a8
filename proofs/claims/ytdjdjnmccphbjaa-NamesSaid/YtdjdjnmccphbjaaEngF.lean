/- EngF: parts laid over cells; every operation that reckons or reads. -/
import Derived.Test.YtdjdjnmccphbjaaEngE
import Derived.Laws.Tables
namespace Go.Proofs.Ytdjdjnmccphbjaa.E
open Go.RowKit

section
variable {P : Program} {B : Nat} {W0 : World} {ρ : Nat → Option Place} {ok : Nat → Prop} {w : World} {h : Heap} {n : Nat}

theorem CR.one {c : AV} {u : Value} (h : V B ρ ok w c u) (h1 : u.oneCell' = true) : CR B ρ ok w [c] [u] := by
  refine ⟨rfl, by simpa using h1, fun j c' u' hc hu => ?_⟩
  cases j with
  | zero => simp at hc hu; subst hc; subst hu; exact h
  | succ j => simp at hc
theorem CR.append {a b : List AV} {x y : List Value} (h : CR B ρ ok w a x) (g : CR B ρ ok w b y) : CR B ρ ok w (a ++ b) (x ++ y) := by
  obtain ⟨h1, h2, h3⟩ := h
  obtain ⟨g1, g2, g3⟩ := g
  refine ⟨by simp [h1, g1], fun u hu => ?_, fun j c u hc hu => ?_⟩
  · rcases List.mem_append.1 hu with hu | hu
    · exact h2 u hu
    · exact g2 u hu
  · by_cases hj : j < a.length
    · rw [List.getElem?_append_left hj] at hc
      rw [List.getElem?_append_left (by omega)] at hu
      exact h3 j c u hc hu
    · rw [List.getElem?_append_right (by omega)] at hc
      rw [List.getElem?_append_right (by omega), ← h1] at hu
      exact g3 _ c u hc hu
theorem CR.take {a : List AV} {x : List Value} (h : CR B ρ ok w a x) (k : Nat) : CR B ρ ok w (a.take k) (x.take k) := by
  obtain ⟨h1, h2, h3⟩ := h
  refine ⟨by simp [h1], fun u hu => h2 u (List.mem_of_mem_take hu), fun j c u hc hu => ?_⟩
  rw [List.getElem?_take] at hc hu
  split at hc
  · rename_i hj; rw [if_pos hj] at hu; exact h3 j c u hc hu
  · cases hc
theorem CR.drop {a : List AV} {x : List Value} (h : CR B ρ ok w a x) (k : Nat) : CR B ρ ok w (a.drop k) (x.drop k) := by
  obtain ⟨h1, h2, h3⟩ := h
  refine ⟨by simp [h1], fun u hu => h2 u (List.mem_of_mem_drop hu), fun j c u hc hu => ?_⟩
  rw [List.getElem?_drop] at hc hu
  exact h3 _ c u hc hu

theorem cells_sound {x : AV} {u : Value} (hx : V B ρ ok w x u) (hp : 0 < (cellsA x).length) : CR B ρ ok w (cellsA x) u.cells.toList := by
  cases hx with
  | und => simp [cellsA] at hp
  | nilv => exact .one .nilv rfl
  | nn h1 => exact .one (.nn h1) rfl
  | «at» h1 =>
    have hc : u.cells = #[u] ∧ u.oneCell' = true := by
      unfold atomic at h1
      split at h1 <;> first | exact ⟨rfl, rfl⟩ | cases h1
    simp only [cellsA, hc.1]
    exact .one (.at h1) hc.2
  | nl => exact .one .nl rfl
  | lst h1 =>
    have h1' := h1
    cases h1
    exact .one (.lst h1') rfl
  | rp h1 h2 h3 h4 h5 => exact .one (.rp h1 h2 h3 h4 h5) rfl
  | own0 h1 => exact .one (.own0 h1) rfl
  | own h1 h2 h3 => exact .one (.own h1 h2 h3) rfl
  | ptr h1 => exact .one (.ptr h1) rfl
  | agg h1 h2 h3 => exact ⟨by simpa [cellsA, Value.cells] using h1, by simpa [Value.cells] using h2, by simpa [cellsA, Value.cells] using h3⟩
  | tup h1 h2 => simp [cellsA] at hp
  | fn h1 h2 => exact .one (.fn h1 h2) rfl

theorem zero_sound {z : Value} (hz : okConst z = true) : CR B ρ ok w (zeroA z) z.cells.toList := by
  unfold okConst at hz
  split at hz
  · rename_i cs
    have ha := List.all_eq_true.1 hz
    refine ⟨by simp [zeroA, Value.cells], fun u hu => (leafOf_sound (B := B) (ρ := ρ) (ok := ok) (w := w) (ha u hu)).2, fun j c u hc hu => ?_⟩
    have hu' : cs.toList[j]? = some u := hu
    simp only [zeroA, List.getElem?_map, hu'] at hc
    cases hc
    exact (leafOf_sound (ha u (List.mem_of_getElem? hu'))).1
  · rename_i hn
    obtain ⟨h1, h2⟩ := leafOf_sound (B := B) (ρ := ρ) (ok := ok) (w := w) hz
    have e1 : zeroA z = [leafOf z] := by
      unfold zeroA
      split
      · rename_i cs; exact absurd rfl (hn cs)
      · rfl
    have e2 : z.cells = #[z] := by
      unfold Value.cells
      split
      · rename_i cs; exact absurd rfl (hn cs)
      · rfl
    rw [e1, e2]
    exact .one h1 h2

theorem fold_put (l : List Value) : ∀ (k off : Nat) (cs : Array Value), off + k + l.length ≤ cs.size →
    ((l.zipIdx k).foldl (fun cs (p : Value × Nat) => cs.setIfInBounds (off + p.2) p.1) cs).toList = cs.toList.take (off + k) ++ l ++ cs.toList.drop (off + k + l.length) := by
  induction l with
  | nil => intro k off cs _; simp
  | cons v l ih =>
    intro k off cs hle
    simp only [List.zipIdx_cons, List.foldl_cons]
    rw [ih (k + 1) off _ (by simp at hle ⊢; omega)]
    have := list_seg_step cs.toList (off + k) v l (by simp at hle ⊢; omega)
    simpa [Array.toList_setIfInBounds, Nat.add_assoc] using this

theorem fill_sound {place : Nat → Option (Nat × Nat)} : ∀ (parts : List (Nat × AV)) (pv : List (Nat × Value)) (cl : List AV) (cs : Array Value) (out : List AV),
    parts.length = pv.length → (∀ (j : Nat) (p : Nat × AV) (q : Nat × Value), parts[j]? = some p → pv[j]? = some q → p.1 = q.1 ∧ V B ρ ok w p.2 q.2) → CR B ρ ok w cl cs.toList →
    buildA cl place parts = some out → ∃ cs' : Array Value, Instr.fill place cs pv = some cs' ∧ CR B ρ ok w out cs'.toList
  | [], [], cl, cs, out, _, _, hc, he => by simp [buildA] at he; subst he; exact ⟨cs, rfl, hc⟩
  | (i, x) :: parts, (i', u) :: pv, cl, cs, out, hl, hp, hc, he => by
    obtain ⟨e1, e2⟩ := hp 0 (i, x) (i', u) rfl rfl
    simp only at e1 e2
    subst e1
    simp only [buildA] at he
    split at he
    · cases he
    · rename_i off sz hpl
      split at he
      · rename_i hcond
        obtain ⟨c1, c2, c3⟩ := hcond
        have hcr := cells_sound e2 (by omega)
        have hus : u.cells.size = sz := by have := hcr.1; rw [c1] at this; simpa using this.symm
        have hcl : cs.size = cl.length := by have := hc.1; simpa using this.symm
        have hf := fold_put u.cells.toList 0 off cs (by simp [hus, hcl]; omega)
        simp only [Nat.add_zero] at hf
        have hz : (u.cells.zipIdx.foldl (fun cs (c, j) => cs.setIfInBounds (off + j) c) cs).toList = cs.toList.take off ++ u.cells.toList ++ cs.toList.drop (off + u.cells.toList.length) := by
          rw [← hf, ← Array.foldl_toList]
          simp
        have hcr2 : CR B ρ ok w (putCells cl off (cellsA x)) (u.cells.zipIdx.foldl (fun cs (c, j) => cs.setIfInBounds (off + j) c) cs).toList := by
          rw [hz, putCells, hcr.1]
          exact ((hc.take off).append hcr).append (hc.drop _)
        obtain ⟨cs', g1, g2⟩ := fill_sound parts pv _ _ out (by simpa using hl) (fun j p q h1 h2 => hp (j + 1) p q (by simpa using h1) (by simpa using h2)) hcr2 he
        refine ⟨cs', ?_, g2⟩
        simp only [Instr.fill, hpl]
        rw [if_neg]
        · exact g1
        · simp [hus, hcl]; omega
      · cases he
  | [], _ :: _, _, _, _, hl, _, _, _ => by simp at hl
  | _ :: _, [], _, _, _, hl, _, _, _ => by simp at hl

/-- zero values of types are fit to be read -/
def TypesOk (P : Program) : Prop := ∀ t ti, tiOf P t = some ti → ∀ i z, P.info? t = some i → i.zero = some z → okConst z = true ∧ z.cells.size = i.size

theorem typesOk (P : Program) : TypesOk P := by
  intro t ti h i z h1 h2
  unfold tiOf at h
  rw [h1] at h
  split at h
  · rename_i i' d e1 e2
    cases e1
    rw [h2] at h
    simp only at h
    split at h
    · rename_i hc
      simpa using hc
    · cases h
  · cases h

theorem parts_sound {t : Nat → AV} {a : Act} (hev : ∀ x, okOpd x = true → V B ρ ok w (evA t x) (a.eval x)) (parts : Array (Nat × Operand)) (hok : ∀ p, p ∈ parts.toList → okOpd p.2 = true) :
    (parts.toList.map fun p => (p.1, evA t p.2)).length = ((parts.map fun (i, x) => (i, a.eval x)).toList).length ∧
    ∀ (j : Nat) (p : Nat × AV) (q : Nat × Value), (parts.toList.map fun p => (p.1, evA t p.2))[j]? = some p → ((parts.map fun (i, x) => (i, a.eval x)).toList)[j]? = some q → p.1 = q.1 ∧ V B ρ ok w p.2 q.2 := by
  refine ⟨by simp, fun j p q hp hq => ?_⟩
  rw [List.getElem?_map] at hp
  simp only [Array.toList_map, List.getElem?_map] at hq
  cases hj : parts.toList[j]? with
  | none => rw [hj] at hp; cases hp
  | some x =>
    rw [hj] at hp hq
    cases hp; cases hq
    exact ⟨rfl, hev _ (hok x (List.mem_of_getElem? hj))⟩

theorem build_sound (T : TypesOk P) {t : TypeId} {r : AV} {parts : List (Nat × AV)} {pv : Array (Nat × Value)} (hl : parts.length = pv.toList.length)
    (hp : ∀ (j : Nat) (p : Nat × AV) (q : Nat × Value), parts[j]? = some p → pv.toList[j]? = some q → p.1 = q.1 ∧ V B ρ ok w p.2 q.2)
    (he : ((tiOf P t).bind fun ti => match tkOf P t with
      | .struct fs => (buildA ti.zero (fun i => fs[i]?) parts).map .agg
      | .array _ e => (tiOf P e).bind fun te => (buildA ti.zero (fun i => some (i * te.size, te.size)) parts).map .agg
      | _ => none) = some r) : ∃ z, (Instr.build t pv).run P w = .ok z w ∧ V B ρ ok w r z := by
  cases hti : tiOf P t with
  | none => rw [hti] at he; cases he
  | some ti =>
    obtain ⟨i, d, z, h1, h2, h3, h4, h5, h6, h7⟩ := ti_info hti
    have hz0 := T t ti hti i z h1 h3
    have hz : CR B ρ ok w ti.zero z.cells.toList := by rw [h6]; exact zero_sound hz0.1
    rw [hti] at he
    simp only [Option.bind_some] at he
    have fin : ∀ place out, buildA ti.zero place parts = some out → ∃ cs' : Array Value, Instr.fill place z.cells pv.toList = some cs' ∧ V B ρ ok w (.agg out) (.agg cs') := by
      intro place out ho
      obtain ⟨cs', g1, g2⟩ := fill_sound parts pv.toList ti.zero z.cells out hl hp hz ho
      refine ⟨cs', g1, ?_⟩
      have := V.agg (B := B) (ρ := ρ) (ok := ok) (w := w) g2.1 g2.2.1 g2.2.2
      simpa using this
    split at he
    · rename_i fs htk
      obtain ⟨fields, hu, hm⟩ := tk_struct htk
      cases hb : buildA ti.zero (fun i => fs[i]?) parts with
      | none => rw [hb] at he; cases he
      | some out =>
        rw [hb] at he
        cases he
        obtain ⟨cs', g1, g2⟩ := fin _ _ hb
        refine ⟨.agg cs', run_build w t pv cs' ?_, g2⟩
        have g1' : Instr.fill (fs.toArray[·]?) z.cells pv.toList = some cs' := by simpa using g1
        simp only [Program.built, h1, hu, h3, hm]
        exact g1'
    · rename_i k e htk
      have hu := tk_array htk
      cases hte : tiOf P e with
      | none => rw [hte] at he; cases he
      | some te =>
        rw [hte] at he
        simp only [Option.bind_some] at he
        obtain ⟨ie, de, ze, k1, k2, k3, k4, k5, k6, k7⟩ := ti_info hte
        cases hb : buildA ti.zero (fun i => some (i * te.size, te.size)) parts with
        | none => rw [hb] at he; cases he
        | some out =>
          rw [hb] at he
          cases he
          obtain ⟨cs', g1, g2⟩ := fin _ _ hb
          refine ⟨.agg cs', run_build w t pv cs' ?_, g2⟩
          simp only [Program.built, h1, hu, h3, k1]
          rw [k4] at g1
          exact g1
    · cases he

end
end Go.Proofs.Ytdjdjnmccphbjaa.E
