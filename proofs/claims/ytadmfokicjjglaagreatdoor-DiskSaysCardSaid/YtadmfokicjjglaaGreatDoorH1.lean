/- H1: Ha: commands and answers, by the engine. Hb: commands and answers: copies, likeness. Hc: hands. -/
import Derived.Test.YtadmfokicjjglaaGreatDoorGr
import Derived.Test.YtadmfokicjjglaaGreatDoorSp
namespace Go.Proofs.YtadmfokicjjglaaGreatDoor.E
open Go.RowKit Go.Proofs
set_option maxRecDepth 100000
set_option maxHeartbeats 1000000
set_option linter.unusedSimpArgs false
abbrev cmdC (fr : Bool) (c : S.Cmd) : List AV := [.at (.int .i64 c.kind), .at (.int .i64 c.z), .at (.int .i64 c.n), .at (.int .i64 c.pos), .lst fr 1 (I c.d)]
abbrev ansC (fr : Bool) (a : S.Answer) : List AV := [.at (.int .i64 a.e), .at (.int .i64 a.pos), .lst fr 1 (I a.d)]
theorem ends_b4 {a b c d a' b' c' d' : Bool} {h : Heap} {n : Nat} (e : a = a') (f : b = b') (g : c = c') (i : d = d') : Ends [] (.agg [Bool' a', Bool' b', Bool' c', Bool' d']) [] h n (.agg [Bool' a, Bool' b, Bool' c, Bool' d]) := by
  subst e f g i
  exact ⟨⟨_, rfl, Sub.refl _⟩, rfl⟩
theorem cmd_uses (k : Int) : C Tryz.prog 125 [Int' k] (.agg [Bool' (S.uZ k), Bool' (S.uA k), Bool' (S.uN k), Bool' (S.uD k)]) [] := by
  refine C_inline [] Tryz.func125 (fun _ _ => by kernel_rfl) rfl (by kernel_rfl) (by rfl) (by decide) (by rfl) (by rfl) (by rfl) ?_
  simp -dsimp -implicitDefEqProofs [-getElem?_pos, -List.map_append, -List.map_set, List.getElem?_cons_zero, List.getElem?_cons_succ]
  repeat' (refine brA_split (fun g => ?_) (fun g => ?_) <;> simp -dsimp -implicitDefEqProofs [-getElem?_pos, -List.map_append, -List.map_set, List.getElem?_cons_zero, List.getElem?_cons_succ, g])
  all_goals
    apply ends_b4 <;> simp at * <;> simp [S.uZ, S.uA, S.uN, S.uD] <;> grind
theorem cmd_Check (c : S.Cmd) : C Tryz.prog 93 [.agg (cmdC false c)] (Int' (S.checkCmd c)) [] := by
  obtain ⟨k, z, n, p, xs⟩ := c
  obtain ⟨r, hr⟩ : ∃ r, S.checkCmd ⟨k, z, n, p, xs⟩ = r := ⟨_, rfl⟩
  rw [hr]
  unfold S.checkCmd at hr
  replace hr := hid hr
  refine C_inline [] Tryz.func93 (fun _ _ => by kernel_rfl) rfl (by kernel_rfl) (by rfl) (by decide) (by rfl) (by rfl) (by rfl) ?_
  simp -dsimp -implicitDefEqProofs [-getElem?_pos, -List.map_append, -List.map_set, List.getElem?_cons_zero, List.getElem?_cons_succ]
  refine brA_split (fun h1 => ?_) (fun h1 => ?_)
  · simp -dsimp -implicitDefEqProofs [-getElem?_pos, -List.map_append, -List.map_set, List.getElem?_cons_zero, List.getElem?_cons_succ]
    exact ends_int (by simp at h1; rw [← hr.out, if_pos (by simp; omega)])
  simp at h1
  simp -dsimp -implicitDefEqProofs [-getElem?_pos, -List.map_append, -List.map_set, List.getElem?_cons_zero, List.getElem?_cons_succ]
  refine call_CC (cmd_uses k) ?_
  simp -dsimp -implicitDefEqProofs [-getElem?_pos, -List.map_append, -List.map_set, List.getElem?_cons_zero, List.getElem?_cons_succ]
  refine brA_split (fun h2 => ?_) (fun h2 => ?_)
  · simp -dsimp -implicitDefEqProofs [-getElem?_pos, -List.map_append, -List.map_set, List.getElem?_cons_zero, List.getElem?_cons_succ]
    exact ends_int (by rw [← hr.out, if_neg (by simp; omega), if_pos (by simpa [S.misused] using h2)])
  have h2' : ¬ (S.misused ⟨k, z, n, p, xs⟩ = true) := by rw [Bool.not_eq_true]; simpa [S.misused] using h2
  simp -dsimp -implicitDefEqProofs [-getElem?_pos, -List.map_append, -List.map_set, List.getElem?_cons_zero, List.getElem?_cons_succ]
  refine brA_split (fun h3 => ?_) (fun h3 => ?_)
  · simp -dsimp -implicitDefEqProofs [-getElem?_pos, -List.map_append, -List.map_set, List.getElem?_cons_zero, List.getElem?_cons_succ]
    exact ends_int (by simp at h3; rw [← hr.out, if_neg (by simp; omega), if_neg h2', if_pos (by simp; omega)])
  simp at h3
  have h3 : xs.length ≤ 8 := by omega
  clear h2
  simp -dsimp -implicitDefEqProofs [-getElem?_pos, -List.map_append, -List.map_set, List.getElem?_cons_zero, List.getElem?_cons_succ]
  refine call_CC (slices_Concat [z, p, n] xs (by simp) (by omega)) ?_
  simp -dsimp -implicitDefEqProofs [-getElem?_pos, -List.map_append, -List.map_set, List.getElem?_cons_zero, List.getElem?_cons_succ]
  refine loop_count 70 (xs.length + 3) (fun k h _ _ => h = _ ∧ Hid (∀ j, j < k → S.bad ((z :: p :: n :: xs).getD j 0) = false)) _ rfl (by rfl) ⟨rfl, by intro j hj; omega⟩ ?_ ?_
  · rintro k t h m hk hci hs ⟨rfl, hb⟩
    have hw : IntKind.i64.wrap ((k : Int) + 1) = (k : Int) + 1 := wrap_ok (by omega)
    obtain ⟨x, hx⟩ : ∃ x, (z :: p :: n :: xs)[k]? = some x := ⟨(z :: p :: n :: xs)[k]'(by simp; omega), by simp⟩
    have hk' : decide ((k : Int) < xs.length + 1 + 1 + 1) = true := by simp; omega
    have e1 := hs 1 rfl
    have e68 := hs 68 rfl
    have e69 := hs 69 rfl
    clear hs
    simp -dsimp -implicitDefEqProofs at e1 e68 e69
    replace hk := hid hk
    simp -dsimp -implicitDefEqProofs [-getElem?_pos, -List.map_append, -List.map_set, List.getElem?_cons_zero, List.getElem?_cons_succ, e1, e68, e69, hci, hk', hx]
    refine brA_split (fun g1 => ?_) (fun g1 => ?_)
    · simp -dsimp -implicitDefEqProofs [-getElem?_pos, -List.map_append, -List.map_set, List.getElem?_cons_zero, List.getElem?_cons_succ]
      exact ends_int (by rw [← hr.out, if_neg (by simp; omega), if_neg h2', if_neg (by simp; omega), if_pos (any_of hx (by simpa [S.bad] using g1))])
    simp -dsimp -implicitDefEqProofs [-getElem?_pos, -List.map_append, -List.map_set, List.getElem?_cons_zero, List.getElem?_cons_succ, hw, hci, e1, e68, e69]
    exact below_succ hb.out hx (by simpa [S.bad] using g1)
  · rintro t h m hci hs ⟨rfl, hb⟩
    have hba := any_none (xs := z :: p :: n :: xs) (p := S.bad) (by simpa using hb.out)
    have hk' : decide ((xs.length : Int) + 3 < xs.length + 1 + 1 + 1) = false := by simp; omega
    have e1 := hs 1 rfl
    have e68 := hs 68 rfl
    have e69 := hs 69 rfl
    clear hs
    simp -dsimp -implicitDefEqProofs at e1 e68 e69
    simp -dsimp -implicitDefEqProofs [-getElem?_pos, -List.map_append, -List.map_set, List.getElem?_cons_zero, List.getElem?_cons_succ, e1, e68, e69, hci, hk']
    exact ends_int (by rw [← hr.out, if_neg (by simp; omega), if_neg h2', if_neg (by simp; omega), if_neg (by simp only [hba]; simp)])
end Go.Proofs.YtadmfokicjjglaaGreatDoor.E
namespace Go.Proofs.YtadmfokicjjglaaGreatDoor.E
open Go.RowKit Go.Proofs
set_option maxRecDepth 100000
set_option maxHeartbeats 1000000
set_option linter.unusedSimpArgs false
theorem ends_eq {p : Prop} [Decidable p] {b : Bool} {h : Heap} {n : Nat} (e : b = true ↔ p) : Ends [] (Bool' (decide p)) [] h n (Bool' b) := ends_bool (by
  by_cases hp : p
  · rw [decide_eq_true hp]; exact e.2 hp
  · rw [decide_eq_false hp]; exact Bool.eq_false_iff.2 fun hb => hp (e.1 hb))
theorem ref_SameCmd (a b : S.Cmd) : C Tryz.prog 52 [.agg (cmdC false a), .agg (cmdC false b)] (Bool' (decide (a = b))) [] := by
  refine C_inline [] Tryz.func52 (fun _ _ => by kernel_rfl) rfl (by kernel_rfl) (by rfl) (by decide) (by rfl) (by rfl) (by rfl) ?_
  simp -dsimp -implicitDefEqProofs [-getElem?_pos, -List.map_append, -List.map_set, List.getElem?_cons_zero, List.getElem?_cons_succ]
  refine guardC_C (int_equal a.d b.d) (by first | rfl | (simp -dsimp -implicitDefEqProofs; done)) (by first | exact Or.inr (by rfl) | exact Or.inl (by rfl)) ?_
  simp -dsimp -implicitDefEqProofs [-getElem?_pos, -List.map_append, -List.map_set, List.getElem?_cons_zero, List.getElem?_cons_succ]
  exact ends_eq (by cases a; cases b; simp; grind)
def eqAll {α : Type} (eq : α → α → Bool) : List α → List α → Bool
  | [], [] => true
  | x :: xs, y :: ys => eq x y && eqAll eq xs ys
  | _, _ => false
theorem eqAll_dec {α : Type} [DecidableEq α] (xs ys : List α) : eqAll (fun x y => decide (x = y)) xs ys = decide (xs = ys) := by
  induction xs generalizing ys with
  | nil => cases ys <;> simp [eqAll]
  | cons x xs ih => cases ys <;> simp [eqAll, ih]
end Go.Proofs.YtadmfokicjjglaaGreatDoor.E
namespace Go.Proofs.YtadmfokicjjglaaGreatDoor.E
open Go.RowKit Go.Proofs
set_option maxRecDepth 100000
set_option maxHeartbeats 1000000
set_option linter.unusedSimpArgs false
theorem eqAll_len {α : Type} {eq : α → α → Bool} : ∀ {xs ys : List α}, eqAll eq xs ys = true → xs.length = ys.length
  | [], [], _ => rfl
  | x :: xs, y :: ys, h => by simp [eqAll] at h; simp [eqAll_len h.2]
theorem eqAll_get {α : Type} {eq : α → α → Bool} : ∀ {xs ys : List α}, eqAll eq xs ys = true ↔ xs.length = ys.length ∧ ∀ (j : Nat) (x y : α), xs[j]? = some x → ys[j]? = some y → eq x y = true
  | [], [] => by simp [eqAll]
  | x :: xs, y :: ys => by
    simp only [eqAll, Bool.and_eq_true, eqAll_get (xs := xs) (ys := ys), List.length_cons, Nat.add_right_cancel_iff]
    constructor
    · rintro ⟨h1, h2, h3⟩
      refine ⟨h2, fun j => ?_⟩
      cases j with
      | zero => intro a b ha hb; cases ha; cases hb; exact h1
      | succ j => intro a b ha hb; exact h3 j a b (by simpa using ha) (by simpa using hb)
    · rintro ⟨h1, h2⟩
      exact ⟨h2 0 x y rfl rfl, h1, fun j a b ha hb => h2 (j + 1) a b (by simpa using ha) (by simpa using hb)⟩
  | [], y :: ys => by simp [eqAll]
  | x :: xs, [] => by simp [eqAll]
end Go.Proofs.YtadmfokicjjglaaGreatDoor.E
