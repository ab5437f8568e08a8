
/- SpecText: texts parted, numbers as texts, commands as texts, in plain Lean; no program is named here. -/
import Derived.Test.YtallmebpmoaopaaDoorSp
import Derived.Lib.AtoiAll
import Derived.Lib.AtoiAllCases
import Derived.Lib.ItoaNum
import Derived.Lib.IndexLaws
import Derived.Lib.IndexMore
import Derived.Lib.Split
namespace Go.Proofs.YtallmebpmoaopaaDoor.S
open Go

/-! parting at one byte -/
/-- what is ahead of a byte's first instance, and what is behind it -/
def cut1 (c : UInt8) : List UInt8 → Option (List UInt8 × List UInt8)
  | [] => none
  | b :: l => if b = c then some ([], l) else match cut1 c l with
    | some (x, y) => some (b :: x, y)
    | none => none
theorem cut1_some {c : UInt8} : ∀ {l x y : List UInt8}, cut1 c l = some (x, y) → l = x ++ c :: y ∧ c ∉ x
  | [], x, y, h => by simp [cut1] at h
  | b :: l, x, y, h => by
    unfold cut1 at h
    split at h
    · rename_i hb
      simp only [Option.some.injEq, Prod.mk.injEq] at h
      obtain ⟨rfl, rfl⟩ := h
      subst hb
      simp
    · rename_i hb
      split at h
      · rename_i x' y' hc
        simp only [Option.some.injEq, Prod.mk.injEq] at h
        obtain ⟨rfl, rfl⟩ := h
        obtain ⟨h1, h2⟩ := cut1_some hc
        refine ⟨by rw [h1]; rfl, ?_⟩
        simp only [List.mem_cons, not_or]
        exact ⟨fun e => hb e.symm, h2⟩
      · cases h
theorem cut1_none {c : UInt8} : ∀ {l : List UInt8}, cut1 c l = none ↔ c ∉ l
  | [] => by simp [cut1]
  | b :: l => by
    unfold cut1
    split
    · rename_i hb; subst hb; simp
    · rename_i hb
      have ih := cut1_none (c := c) (l := l)
      split
      · rename_i x y hc
        rw [hc] at ih
        simp at ih
        simp [ih]
      · rename_i hc
        rw [hc] at ih
        simp at ih
        simp only [List.mem_cons, not_or, true_iff]
        exact ⟨fun e => hb e.symm, ih⟩
theorem cut1_app {c : UInt8} : ∀ {x : List UInt8} (y : List UInt8), c ∉ x → cut1 c (x ++ c :: y) = some (x, y)
  | [], y, _ => by simp [cut1]
  | b :: x, y, h => by
    simp only [List.mem_cons, not_or] at h
    show cut1 c (b :: (x ++ c :: y)) = _
    unfold cut1
    rw [if_neg (fun e => h.1 e.symm), cut1_app y h.2]

/-- the pieces of a text -/
def pieces (c : UInt8) : List UInt8 → List (List UInt8)
  | [] => [[]]
  | b :: l => if b = c then [] :: pieces c l else match pieces c l with
    | x :: xs => (b :: x) :: xs
    | [] => [[b]]
theorem pieces_ne (c : UInt8) (l : List UInt8) : pieces c l ≠ [] := by
  cases l with
  | nil => simp [pieces]
  | cons b l => unfold pieces; split; · simp
                split <;> simp
theorem pieces_none {c : UInt8} : ∀ {l : List UInt8}, c ∉ l → pieces c l = [l]
  | [], _ => rfl
  | b :: l, h => by
    simp only [List.mem_cons, not_or] at h
    unfold pieces
    rw [if_neg (fun e => h.1 e.symm), pieces_none h.2]
theorem pieces_app {c : UInt8} : ∀ {x : List UInt8} (y : List UInt8), c ∉ x → pieces c (x ++ c :: y) = x :: pieces c y
  | [], y, _ => by simp [pieces]
  | b :: x, y, h => by
    simp only [List.mem_cons, not_or] at h
    show pieces c (b :: (x ++ c :: y)) = _
    rw [pieces, if_neg (fun e => h.1 e.symm), pieces_app y h.2]
theorem pieces_cut (c : UInt8) (l : List UInt8) : pieces c l = match cut1 c l with | some (x, y) => x :: pieces c y | none => [l] := by
  cases h : cut1 c l with
  | none => exact pieces_none (cut1_none.1 h)
  | some p =>
    obtain ⟨x, y⟩ := p
    obtain ⟨h1, h2⟩ := cut1_some h
    rw [h1, pieces_app y h2]
theorem pieces_len (c : UInt8) : ∀ l : List UInt8, (pieces c l).length ≤ l.length + 1
  | [] => by simp [pieces]
  | b :: l => by
    have ih := pieces_len c l
    rw [pieces]
    split
    · simp; omega
    · split
      · rename_i x xs hp; rw [hp] at ih; simp at ih ⊢; omega
      · simp
theorem pieces_mem (c : UInt8) : ∀ (l x : List UInt8), x ∈ pieces c l → x.length ≤ l.length
  | [], x, h => by simp [pieces] at h; simp [h]
  | b :: l, x, h => by
    have ih := pieces_mem c l
    rw [pieces] at h
    split at h
    · simp only [List.mem_cons] at h
      rcases h with rfl | h
      · simp
      · have := ih x h; simp; omega
    · split at h
      · rename_i y ys hp
        simp only [List.mem_cons] at h
        rcases h with rfl | h
        · have := ih y (by rw [hp]; simp); simp; omega
        · have := ih x (by rw [hp]; simp [h]); simp; omega
      · rename_i hp; exact absurd hp (pieces_ne _ _)
/-- pieces, joined -/
def joined (c : UInt8) : List (List UInt8) → List UInt8
  | [] => []
  | [x] => x
  | x :: y :: l => x ++ c :: joined c (y :: l)
theorem joined_pieces (c : UInt8) : ∀ l : List UInt8, joined c (pieces c l) = l
  | [] => rfl
  | b :: l => by
    have ih := joined_pieces c l
    unfold pieces
    split
    · rename_i hb
      subst hb
      cases hp : pieces b l with
      | nil => exact absurd hp (pieces_ne _ _)
      | cons x xs => rw [hp] at ih; simp only [joined, List.nil_append, ih]
    · split
      · rename_i x xs hp
        rw [hp] at ih
        cases xs with
        | nil => simp only [joined] at ih ⊢; rw [ih]
        | cons y ys => simp only [joined, List.cons_append] at ih ⊢; rw [ih]
      · rename_i hp; exact absurd hp (pieces_ne _ _)
theorem pieces_joined {c : UInt8} : ∀ {ls : List (List UInt8)}, ls ≠ [] → (∀ x, x ∈ ls → c ∉ x) → pieces c (joined c ls) = ls
  | [], h, _ => absurd rfl h
  | [x], _, h => by simp only [joined]; exact pieces_none (h x (by simp))
  | x :: y :: l, _, h => by
    simp only [joined]
    rw [pieces_app _ (h x (by simp)), pieces_joined (by simp) (fun z hz => h z (by simp [hz]))]

theorem occAt_one (l : List UInt8) (c : UInt8) (i : Nat) : Lib.occAt l [c] i = decide (l[i]? = some c) := by
  unfold Lib.occAt
  cases h : l.drop i with
  | nil =>
    have : l[i]? = none := by rw [List.getElem?_eq_none]; simpa using List.drop_eq_nil_iff.1 h
    simp [this]
  | cons b t =>
    have : l[i]? = some b := by
      have := List.getElem?_drop (xs := l) (i := i) (j := 0)
      rw [h] at this
      simpa using this.symm
    rw [this]
    simp [List.isPrefixOf, Bool.beq_eq_decide_eq, eq_comm]
theorem index_one (c : UInt8) (l : List UInt8) : Lib.index l [c] = match cut1 c l with | some (x, _) => (x.length : Int) | none => -1 := by
  cases h : cut1 c l with
  | none =>
    have hn := cut1_none.1 h
    refine Lib.index_none fun j hj => ?_
    rw [occAt_one]
    simp only [decide_eq_false_iff_not]
    exact fun e => hn (List.mem_of_getElem? e)
  | some p =>
    obtain ⟨x, y⟩ := p
    obtain ⟨h1, h2⟩ := cut1_some h
    refine Lib.index_first (i := x.length) (by rw [h1]; simp) (by rw [occAt_one, h1]; simp) fun j hj => ?_
    rw [occAt_one, h1]
    simp only [decide_eq_false_iff_not]
    rw [List.getElem?_append_left hj]
    exact fun e => h2 (List.mem_of_getElem? e)
theorem cut_one (c : UInt8) (l : List UInt8) : Lib.cut l [c] = match cut1 c l with | some (x, y) => (x, y, true) | none => (l, [], false) := by
  unfold Lib.cut
  rw [index_one]
  cases h : cut1 c l with
  | none => rfl
  | some p =>
    obtain ⟨x, y⟩ := p
    obtain ⟨h1, h2⟩ := cut1_some h
    simp only
    rw [if_pos (by omega)]
    simp [h1]
theorem splitK_one (c : UInt8) : ∀ (k : Nat) (l : List UInt8), l.count c ≤ k → Lib.splitK [c] 0 k l = pieces c l
  | 0, l, h => by
    have : c ∉ l := List.count_eq_zero.1 (by omega)
    rw [pieces_none this]
    rfl
  | k + 1, l, h => by
    unfold Lib.splitK
    rw [pieces_cut, index_one]
    cases hc : cut1 c l with
    | none => rfl
    | some p =>
      obtain ⟨x, y⟩ := p
      obtain ⟨h1, h2⟩ := cut1_some hc
      simp only
      have hne : ((x.length : Int) == -1) = false := by simp
      rw [hne]
      have hcy : y.count c ≤ k := by rw [h1] at h; simp at h; omega
      have e1 : (x.length : Int).toNat = x.length := by omega
      have e2 : l.take (x.length + 0) = x := by rw [h1]; simp
      have e3 : l.drop (x.length + [c].length) = y := by rw [h1]; simp
      rw [e1, e2, e3, splitK_one c k y hcy]
      rfl
theorem countFrom_one (c : UInt8) : ∀ (f : Nat) (l : List UInt8), l.length < f → Lib.countFrom [c] f l = l.count c
  | 0, l, h => by omega
  | f + 1, l, h => by
    unfold Lib.countFrom
    rw [index_one]
    cases hc : cut1 c l with
    | none =>
      have := cut1_none.1 hc
      simp [List.count_eq_zero.2 this]
    | some p =>
      obtain ⟨x, y⟩ := p
      obtain ⟨h1, h2⟩ := cut1_some hc
      simp only
      have hne : ((x.length : Int) == -1) = false := by simp
      rw [hne]
      have e1 : (x.length : Int).toNat = x.length := by omega
      have e3 : l.drop (x.length + [c].length) = y := by rw [h1]; simp
      rw [e1, e3, countFrom_one c f y (by rw [h1] at h; simp at h; omega), h1]
      simp [List.count_eq_zero.2 h2]
      omega
theorem split_one (c : UInt8) (l : List UInt8) : Lib.splitK [c] 0 (Lib.count l [c]) l = pieces c l :=
  splitK_one c _ l (by unfold Lib.count; rw [countFrom_one c _ l (by omega)]; exact Nat.le_refl _)

/-! numbers -/
/-- the number that a text spells, as it is written -/
def numOf (l : List UInt8) : Option Int := match Lib.atoiAll l with
  | .ok v => if Lib.itoa v = l then some v else none
  | _ => none
theorem numOf_some {l : List UInt8} {v : Int} (h : numOf l = some v) : l = Lib.itoa v ∧ Lib.atoiAll l = .ok v := by
  unfold numOf at h
  split at h
  · rename_i u hu
    split at h
    · rename_i he; cases h; exact ⟨he.symm, hu⟩
    · cases h
  · cases h
def dig3 (i : Nat) : List UInt8 := if i < 10 then [UInt8.ofNat (48 + i)] else if i < 100 then [UInt8.ofNat (48 + i / 10), UInt8.ofNat (48 + i % 10)] else [UInt8.ofNat (48 + i / 100), UInt8.ofNat (48 + i / 10 % 10), UInt8.ofNat (48 + i % 10)]
theorem itoa_small {i : Nat} (h : i < 1000) : Lib.itoa (i : Int) = dig3 i := by
  have e : Lib.itoa (i : Int) = Lib.decDigits i := by
    unfold Lib.itoa
    rw [if_neg (by omega)]
    rfl
  rw [e]
  unfold dig3
  split
  · rename_i h1; exact Lib.decDigits_one h1
  · rename_i h1
    split
    · rename_i h2; exact Lib.decDigits_two h1 h2
    · rename_i h2
      rw [Lib.decDigits, dif_neg h1, Lib.decDigits_two (by omega) (by omega)]
      simp only [List.cons_append, List.nil_append]
      have : i / 10 / 10 = i / 100 := by omega
      rw [this]
theorem atoi_dig3 : ∀ i : Fin 1000, Lib.atoiAll (dig3 i.val) = .ok (i.val : Int) ∧ (dig3 i.val).all (fun b => decide (48 ≤ b.toNat ∧ b.toNat ≤ 57)) = true ∧ dig3 i.val ≠ [] ∧ (dig3 i.val).length ≤ 3 := by decide +kernel
theorem itoa_facts {n : Int} (h0 : 0 ≤ n) (h1 : n < 1000) : Lib.atoiAll (Lib.itoa n) = .ok n ∧ (∀ b, b ∈ Lib.itoa n → 48 ≤ b.toNat ∧ b.toNat ≤ 57) ∧ Lib.itoa n ≠ [] ∧ (Lib.itoa n).length ≤ 3 := by
  obtain ⟨i, rfl⟩ : ∃ i : Nat, n = i := ⟨n.toNat, by omega⟩
  have hi : i < 1000 := by omega
  rw [itoa_small hi]
  obtain ⟨a, b, c, d⟩ := atoi_dig3 ⟨i, hi⟩
  exact ⟨a, fun x hx => by simpa using List.all_eq_true.1 b x hx, c, d⟩
theorem numOf_itoa {n : Int} (h0 : 0 ≤ n) (h1 : n < 1000) : numOf (Lib.itoa n) = some n := by
  unfold numOf
  rw [(itoa_facts h0 h1).1]
  simp
theorem itoa_inj {m n : Int} (h0 : 0 ≤ m) (h1 : m < 1000) (g0 : 0 ≤ n) (g1 : n < 1000) (h : Lib.itoa m = Lib.itoa n) : m = n := by
  have := numOf_itoa h0 h1
  rw [h, numOf_itoa g0 g1] at this
  cases this
  rfl

end Go.Proofs.YtallmebpmoaopaaDoor.S
