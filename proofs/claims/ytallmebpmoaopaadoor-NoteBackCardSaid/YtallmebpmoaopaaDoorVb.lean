
/- Vb: the words of the kinds; the place of a word; cmd.Print. -/
import Derived.Test.YtallmebpmoaopaaDoorVa
import Derived.Test.YtallmebpmoaopaaDoorHd
import Derived.Test.YtallmebpmoaopaaDoorSpecCmd
namespace Go.Proofs.YtallmebpmoaopaaDoor.E
open Go.RowKit Go.Proofs
set_option linter.unusedVariables false
set_option linter.unusedSimpArgs false
set_option maxRecDepth 100000
set_option maxHeartbeats 2000000

theorem drop_cons {α : Type} {xs : List α} {k : Nat} {x : α} (h : xs[k]? = some x) : xs.drop k = x :: xs.drop (k + 1) := by
  obtain ⟨h1, h2⟩ := List.getElem?_eq_some_iff.1 h
  rw [List.drop_eq_getElem_cons h1, h2]
/-- a slice of one's own that is these numbers: nothing, or a row that is none of some, below s -/
def OwnN (no : List Nat) (s : Nat) (h : Heap) (v : AV) (ns : List Int) : Prop := (v = .nl ∧ ns = []) ∨ ∃ i, v = .own i 0 ns.length ∧ i ∉ no ∧ i < s ∧ h i = some ⟨3, 1, I ns⟩
theorem OwnN.mono {no no' : List Nat} {s s' : Nat} {h h' : Heap} {v : AV} {ns : List Int} (g : OwnN no s h v ns) (hh : ∀ i, i < s → i ∉ no → h' i = h i) (hs : s ≤ s') (hn : ∀ x, x ∈ no' → x ∈ no ∨ s ≤ x) : OwnN no' s' h' v ns := by
  rcases g with g | ⟨i, g1, g2, g3, g4⟩
  · exact .inl g
  · refine .inr ⟨i, g1, fun hx => ?_, by omega, by rw [hh i g3 g2]; exact g4⟩
    rcases hn i hx with q | q
    · exact g2 q
    · omega
/-- the end of such a row, shown -/
theorem own_view {h : Heap} {i o m : Nat} {ty : TypeId} {ns : List Int} (hi : h i = some ⟨ty, 1, I ns⟩) (hm : o + m = ns.length) : leafP h [] 3 (.own i o m) = some (.lst false 1 (I (ns.drop o))) := by
  show (match h i with | some e => if o + m ≤ e.rows.length then (((e.rows.drop o).take m).mapM fun (r : List AV) => r.mapM (leafP h [] 2)).map (AV.lst false e.s ·) else none | none => none) = _
  rw [hi]
  simp only
  have e1 : ((I ns).drop o).take m = I (ns.drop o) := by
    have : ((I ns).drop o) = I (ns.drop o) := by simp [I]
    rw [this]
    exact List.take_of_length_le (by simp; omega)
  rw [if_pos (by simp; omega), e1, I_shown]
  rfl
theorem OutL.endN {h : Heap} {i o m : Nat} {ty : TypeId} {fr : Bool} {ns : List Int} {cs ts : List AV} (hi : h i = some ⟨ty, 1, I ns⟩) (hm : o + m = ns.length) (g : OutL h cs ts) : OutL h (.own i o m :: cs) (.lst fr 1 (I (ns.drop o)) :: ts) := by
  have ho : outLeaf h [] (.own i o m) = some (.lst true 1 (I (ns.drop o))) := by
    show (match h i, leafP h [] 3 (.own i o m) with | some e, some (.lst _ s rows) => some (AV.lst (e.rows.all fun r => r.all freshCell) s rows) | _, _ => none) = _
    rw [hi, own_view hi hm]
    simp only [I_fresh]
  exact .cons ho (.lst (fun _ => rfl) (SubR.refl _)) g
theorem cmd_words : C Tryd.prog 35 [] (.lst true 1 (Txs S.words)) [] := by
  refine C_inline [] Tryd.func35 (fun _ _ => by kernel_rfl) rfl (by kernel_rfl) (by rfl) (by decide) (by rfl) (by rfl) (by rfl) ?_
  simp -dsimp -implicitDefEqProofs [-getElem?_pos, -List.map_append, -List.map_set, List.getElem?_cons_zero, List.getElem?_cons_succ]
  refine ⟨⟨.lst true 1 (Txs S.words), ?_, .refl _⟩, rfl⟩
  rfl
theorem ref_words : C Tryd.prog 46 [] (.lst true 1 (Txs S.words)) [] := by
  have h := strings_Split ([32, 111, 112, 101, 110, 32, 99, 108, 111, 115, 101, 32, 102, 105, 110, 105, 115, 104, 32, 114, 101, 115, 101, 116, 32, 97, 112, 112, 101, 110, 100, 32, 119, 114, 105, 116, 101, 32, 114, 101, 97, 100, 32, 114, 101, 103, 105, 115, 116, 101, 114, 32, 114, 101, 115, 101, 114, 118, 101, 32, 114, 101, 108, 101, 97, 115, 101, 32, 112, 114, 101, 101, 109, 112, 116, 32, 99, 108, 101, 97, 114]) [32] (by decide) (by decide)
  have e : splitL ([32, 111, 112, 101, 110, 32, 99, 108, 111, 115, 101, 32, 102, 105, 110, 105, 115, 104, 32, 114, 101, 115, 101, 116, 32, 97, 112, 112, 101, 110, 100, 32, 119, 114, 105, 116, 101, 32, 114, 101, 97, 100, 32, 114, 101, 103, 105, 115, 116, 101, 114, 32, 114, 101, 115, 101, 114, 118, 101, 32, 114, 101, 108, 101, 97, 115, 101, 32, 112, 114, 101, 101, 109, 112, 116, 32, 99, 108, 101, 97, 114]) [32] = S.words := (S.split_one 32 _).trans (by decide)
  rw [e] at h
  refine C_inline [] Tryd.func46 (fun _ _ => by kernel_rfl) rfl (by kernel_rfl) (by rfl) (by decide) (by rfl) (by rfl) (by rfl) ?_
  simp -dsimp -implicitDefEqProofs [-getElem?_pos, -List.map_append, -List.map_set, List.getElem?_cons_zero, List.getElem?_cons_succ]
  refine call_CC h ?_
  simp -dsimp -implicitDefEqProofs [-getElem?_pos, -List.map_append, -List.map_set, List.getElem?_cons_zero, List.getElem?_cons_succ]
  exact ⟨⟨_, rfl, .refl _⟩, rfl⟩

@[simp] theorem Txs_cons (l : List UInt8) (ls : List (List UInt8)) : Txs (l :: ls) = [Tx l] :: Txs ls := rfl
theorem Txs_take (ls : List (List UInt8)) : (Txs ls).take ls.length = Txs ls := List.take_of_length_le (by simp)
theorem index_texts (ls : List (List UInt8)) (w : List UInt8) (hl : ls.length ≤ 1000000) : C Tryd.prog 40 [.lst false 1 (Txs ls), Tx w] (Int' (S.idxOf w ls)) [] := by
  obtain ⟨r, hr⟩ : ∃ r, S.idxOf w ls = r := ⟨_, rfl⟩
  rw [hr]
  replace hr := hid hr
  refine C_inline [] Tryd.func40 (fun _ _ => by kernel_rfl) rfl (by kernel_rfl) (by rfl) (by decide) (by rfl) (by rfl) (by rfl) ?_
  simp -dsimp -implicitDefEqProofs [-getElem?_pos, -List.map_append, -List.map_set, List.getElem?_cons_zero, List.getElem?_cons_succ]
  refine loop_count 8 ls.length (fun k _ m _ => Hid (∀ (j : Nat), j < k → ls[j]? ≠ some w)) _ rfl (by rfl) (by intro j hj; omega) ?_ ?_
  · rintro k t h m hk hci hs hb
    have hw : IntKind.i64.wrap ((k : Int) + 1) = (k : Int) + 1 := wrap_ok (by omega)
    obtain ⟨x, hx⟩ : ∃ x, ls[k]? = some x := ⟨ls[k], by simp⟩
    have hk' : decide (k < ls.length) = true := by simp [hk]
    have e0 := hs 0 rfl
    have e1 := hs 1 rfl
    have e7 := hs 7 rfl
    clear hs
    simp -dsimp -implicitDefEqProofs at e0 e1 e7
    replace hk := hid hk
    replace hl := hid hl
    by_cases hxw : w = x
    · have := S.idxOf_first (xs := ls) (k := k) (w := w) (by rw [hx, hxw]) hb.out
      have e : r = k := by rw [← hr.out]; exact this
      clear hb this
      simp -dsimp -implicitDefEqProofs [-getElem?_pos, -List.map_append, -List.map_set, List.getElem?_cons_zero, List.getElem?_cons_succ, e0, e1, e7, hci, hk', hx, hxw]
      exact ends_int e.symm
    · have hg : ∀ (j : Nat), j < k + 1 → ls[j]? ≠ some w := by
        intro j hj
        rcases Nat.lt_or_ge j k with g | g
        · exact hb.out j g
        · have : j = k := by omega
          subst this
          rw [hx]
          exact fun e => hxw (Option.some.inj e).symm
      clear hb
      simp -dsimp -implicitDefEqProofs [-getElem?_pos, -List.map_append, -List.map_set, List.getElem?_cons_zero, List.getElem?_cons_succ, e0, e1, e7, hci, hk', hx, hxw, hw]
      exact hg
  · rintro t h m hci hs hb
    have e0 := hs 0 rfl
    have e1 := hs 1 rfl
    have e7 := hs 7 rfl
    clear hs
    simp -dsimp -implicitDefEqProofs at e0 e1 e7
    replace hl := hid hl
    simp -dsimp -implicitDefEqProofs [-getElem?_pos, -List.map_append, -List.map_set, List.getElem?_cons_zero, List.getElem?_cons_succ, e0, e1, e7, hci]
    refine ends_int ?_
    rw [← hr.out]
    have hrg := S.idxOf_range w ls
    by_cases h1 : S.idxOf w ls = -1
    · exact h1.symm
    · obtain ⟨k, hk⟩ : ∃ k : Nat, S.idxOf w ls = k := ⟨(S.idxOf w ls).toNat, by omega⟩
      exact absurd (S.idxOf_at hk) (hb.out k (by omega))

end Go.Proofs.YtallmebpmoaopaaDoor.E
