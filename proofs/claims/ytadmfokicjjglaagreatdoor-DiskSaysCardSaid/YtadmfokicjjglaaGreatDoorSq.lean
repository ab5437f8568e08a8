/- Sq: SpecText: texts parted, numbers as texts, commands as texts, in plain Lean; no program is named here. SpecCmd: commands as texts, in plain Lean; no program is named here. SpecBack: what is printed is read, what is read is printed as it was: commands. SpecNote: records as texts, in plain Lean; no program is named here. SpecDisk: disks: lines of records, put, synced, crashed, recovered, in plain Lean; no program is named here. SpecParts: whole lines of records on a disk; what is put and synced is there; records replayed in parts. No program is named here. SpecRefs: commands as texts, as the reference prints and reads them, in plain Lean; no program is named here. -/
import Derived.Test.YtadmfokicjjglaaGreatDoorSp
import Derived.Lib.AtoiAll
import Derived.Lib.AtoiAllCases
import Derived.Lib.ItoaNum
import Derived.Lib.IndexLaws
import Derived.Lib.IndexMore
import Derived.Lib.Split
namespace Go.Proofs.YtadmfokicjjglaaGreatDoor.S
open Go
/-! parting at one byte -/
def cut1 (c : UInt8) : List UInt8 → Option (List UInt8 × List UInt8)
  | [] => none
  | b :: l => if b = c then some ([], l) else match cut1 c l with
    | some (x, y) => some (b :: x, y)
    | none => none
theorem cut1_some {c : UInt8} : ∀ {l x y : List UInt8}, cut1 c l = some (x, y) → l = x ++ c :: y ∧ c ∉ x
  | [], x, y, h => by simp [cut1] at h
  | b :: l, x, y, h => by
    unfold cut1 at h
    split at h
    · rename_i hb
      simp only [Option.some.injEq, Prod.mk.injEq] at h
      obtain ⟨rfl, rfl⟩ := h
      subst hb
      simp
    · rename_i hb
      split at h
      · rename_i x' y' hc
        simp only [Option.some.injEq, Prod.mk.injEq] at h
        obtain ⟨rfl, rfl⟩ := h
        obtain ⟨h1, h2⟩ := cut1_some hc
        refine ⟨by rw [h1]; rfl, ?_⟩
        simp only [List.mem_cons, not_or]
        exact ⟨fun e => hb e.symm, h2⟩
      · cases h
theorem cut1_none {c : UInt8} : ∀ {l : List UInt8}, cut1 c l = none ↔ c ∉ l
  | [] => by simp [cut1]
  | b :: l => by
    unfold cut1
    split
    · rename_i hb; subst hb; simp
    · rename_i hb
      have ih := cut1_none (c := c) (l := l)
      split
      · rename_i x y hc
        rw [hc] at ih
        simp at ih
        simp [ih]
      · rename_i hc
        rw [hc] at ih
        simp at ih
        simp only [List.mem_cons, not_or, true_iff]
        exact ⟨fun e => hb e.symm, ih⟩
def pieces (c : UInt8) : List UInt8 → List (List UInt8)
  | [] => [[]]
  | b :: l => if b = c then [] :: pieces c l else match pieces c l with
    | x :: xs => (b :: x) :: xs
    | [] => [[b]]
theorem pieces_ne (c : UInt8) (l : List UInt8) : pieces c l ≠ [] := by
  cases l with
  | nil => simp [pieces]
  | cons b l =>
    unfold pieces
    split
    · simp
    · split <;> simp
theorem pieces_none {c : UInt8} : ∀ {l : List UInt8}, c ∉ l → pieces c l = [l]
  | [], _ => rfl
  | b :: l, h => by
    simp only [List.mem_cons, not_or] at h
    unfold pieces
    rw [if_neg (fun e => h.1 e.symm), pieces_none h.2]
theorem pieces_app {c : UInt8} : ∀ {x : List UInt8} (y : List UInt8), c ∉ x → pieces c (x ++ c :: y) = x :: pieces c y
  | [], y, _ => by simp [pieces]
  | b :: x, y, h => by
    simp only [List.mem_cons, not_or] at h
    show pieces c (b :: (x ++ c :: y)) = _
    rw [pieces, if_neg (fun e => h.1 e.symm), pieces_app y h.2]
theorem pieces_cut (c : UInt8) (l : List UInt8) : pieces c l = match cut1 c l with | some (x, y) => x :: pieces c y | none => [l] := by
  cases h : cut1 c l with
  | none => exact pieces_none (cut1_none.1 h)
  | some p =>
    obtain ⟨x, y⟩ := p
    obtain ⟨h1, h2⟩ := cut1_some h
    rw [h1, pieces_app y h2]
theorem pieces_len (c : UInt8) : ∀ l : List UInt8, (pieces c l).length ≤ l.length + 1
  | [] => by simp [pieces]
  | b :: l => by
    have ih := pieces_len c l
    rw [pieces]
    split
    · simp; omega
    · split
      · rename_i x xs hp; rw [hp] at ih; simp at ih ⊢; omega
      · simp
theorem pieces_mem (c : UInt8) : ∀ (l x : List UInt8), x ∈ pieces c l → x.length ≤ l.length
  | [], x, h => by simp [pieces] at h; simp [h]
  | b :: l, x, h => by
    have ih := pieces_mem c l
    rw [pieces] at h
    split at h
    · simp only [List.mem_cons] at h
      rcases h with rfl | h
      · simp
      · have := ih x h; simp; omega
    · split at h
      · rename_i y ys hp
        simp only [List.mem_cons] at h
        rcases h with rfl | h
        · have := ih y (by rw [hp]; simp); simp; omega
        · have := ih x (by rw [hp]; simp [h]); simp; omega
      · rename_i hp; exact absurd hp (pieces_ne _ _)
theorem occAt_one (l : List UInt8) (c : UInt8) (i : Nat) : Lib.occAt l [c] i = decide (l[i]? = some c) := by
  unfold Lib.occAt
  cases h : l.drop i with
  | nil =>
    have : l[i]? = none := by rw [List.getElem?_eq_none]; simpa using List.drop_eq_nil_iff.1 h
    simp [this]
  | cons b t =>
    have : l[i]? = some b := by
      have := List.getElem?_drop (xs := l) (i := i) (j := 0)
      rw [h] at this
      simpa using this.symm
    rw [this]
    simp [List.isPrefixOf, Bool.beq_eq_decide_eq, eq_comm]
theorem index_one (c : UInt8) (l : List UInt8) : Lib.index l [c] = match cut1 c l with | some (x, _) => (x.length : Int) | none => -1 := by
  cases h : cut1 c l with
  | none =>
    have hn := cut1_none.1 h
    refine Lib.index_none fun j hj => ?_
    rw [occAt_one]
    simp only [decide_eq_false_iff_not]
    exact fun e => hn (List.mem_of_getElem? e)
  | some p =>
    obtain ⟨x, y⟩ := p
    obtain ⟨h1, h2⟩ := cut1_some h
    refine Lib.index_first (i := x.length) (by rw [h1]; simp) (by rw [occAt_one, h1]; simp) fun j hj => ?_
    rw [occAt_one, h1]
    simp only [decide_eq_false_iff_not]
    rw [List.getElem?_append_left hj]
    exact fun e => h2 (List.mem_of_getElem? e)
theorem cut_one (c : UInt8) (l : List UInt8) : Lib.cut l [c] = match cut1 c l with | some (x, y) => (x, y, true) | none => (l, [], false) := by
  unfold Lib.cut
  rw [index_one]
  cases h : cut1 c l with
  | none => rfl
  | some p =>
    obtain ⟨x, y⟩ := p
    obtain ⟨h1, h2⟩ := cut1_some h
    simp only
    rw [if_pos (by omega)]
    simp [h1]
theorem splitK_one (c : UInt8) : ∀ (k : Nat) (l : List UInt8), l.count c ≤ k → Lib.splitK [c] 0 k l = pieces c l
  | 0, l, h => by
    have : c ∉ l := List.count_eq_zero.1 (by omega)
    rw [pieces_none this]
    rfl
  | k + 1, l, h => by
    unfold Lib.splitK
    rw [pieces_cut, index_one]
    cases hc : cut1 c l with
    | none => rfl
    | some p =>
      obtain ⟨x, y⟩ := p
      obtain ⟨h1, h2⟩ := cut1_some hc
      simp only
      have hne : ((x.length : Int) == -1) = false := by simp
      rw [hne]
      have hcy : y.count c ≤ k := by rw [h1] at h; simp at h; omega
      have e1 : (x.length : Int).toNat = x.length := by omega
      have e2 : l.take (x.length + 0) = x := by rw [h1]; simp
      have e3 : l.drop (x.length + [c].length) = y := by rw [h1]; simp
      rw [e1, e2, e3, splitK_one c k y hcy]
      rfl
theorem countFrom_one (c : UInt8) : ∀ (f : Nat) (l : List UInt8), l.length < f → Lib.countFrom [c] f l = l.count c
  | 0, l, h => by omega
  | f + 1, l, h => by
    unfold Lib.countFrom
    rw [index_one]
    cases hc : cut1 c l with
    | none =>
      have := cut1_none.1 hc
      simp [List.count_eq_zero.2 this]
    | some p =>
      obtain ⟨x, y⟩ := p
      obtain ⟨h1, h2⟩ := cut1_some hc
      simp only
      have hne : ((x.length : Int) == -1) = false := by simp
      rw [hne]
      have e1 : (x.length : Int).toNat = x.length := by omega
      have e3 : l.drop (x.length + [c].length) = y := by rw [h1]; simp
      rw [e1, e3, countFrom_one c f y (by rw [h1] at h; simp at h; omega), h1]
      simp [List.count_eq_zero.2 h2]
      omega
theorem split_one (c : UInt8) (l : List UInt8) : Lib.splitK [c] 0 (Lib.count l [c]) l = pieces c l :=
  splitK_one c _ l (by unfold Lib.count; rw [countFrom_one c _ l (by omega)]; exact Nat.le_refl _)
/-! numbers -/
def numOf (l : List UInt8) : Option Int := match Lib.atoiAll l with
  | .ok v => if Lib.itoa v = l then some v else none
  | _ => none
def dig3 (i : Nat) : List UInt8 := if i < 10 then [UInt8.ofNat (48 + i)] else if i < 100 then [UInt8.ofNat (48 + i / 10), UInt8.ofNat (48 + i % 10)] else [UInt8.ofNat (48 + i / 100), UInt8.ofNat (48 + i / 10 % 10), UInt8.ofNat (48 + i % 10)]
theorem itoa_small {i : Nat} (h : i < 1000) : Lib.itoa (i : Int) = dig3 i := by
  have e : Lib.itoa (i : Int) = Lib.decDigits i := by
    unfold Lib.itoa
    rw [if_neg (by omega)]
    rfl
  rw [e]
  unfold dig3
  split
  · rename_i h1; exact Lib.decDigits_one h1
  · rename_i h1
    split
    · rename_i h2; exact Lib.decDigits_two h1 h2
    · rename_i h2
      rw [Lib.decDigits, dif_neg h1, Lib.decDigits_two (by omega) (by omega)]
      simp only [List.cons_append, List.nil_append]
      have : i / 10 / 10 = i / 100 := by omega
      rw [this]
theorem atoi_dig3 : ∀ i : Fin 1000, Lib.atoiAll (dig3 i.val) = .ok (i.val : Int) ∧ (dig3 i.val).all (fun b => decide (48 ≤ b.toNat ∧ b.toNat ≤ 57)) = true ∧ dig3 i.val ≠ [] ∧ (dig3 i.val).length ≤ 3 := by decide +kernel
theorem itoa_facts {n : Int} (h0 : 0 ≤ n) (h1 : n < 1000) : Lib.atoiAll (Lib.itoa n) = .ok n ∧ (∀ b, b ∈ Lib.itoa n → 48 ≤ b.toNat ∧ b.toNat ≤ 57) ∧ Lib.itoa n ≠ [] ∧ (Lib.itoa n).length ≤ 3 := by
  obtain ⟨i, rfl⟩ : ∃ i : Nat, n = i := ⟨n.toNat, by omega⟩
  have hi : i < 1000 := by omega
  rw [itoa_small hi]
  obtain ⟨a, b, c, d⟩ := atoi_dig3 ⟨i, hi⟩
  exact ⟨a, fun x hx => by simpa using List.all_eq_true.1 b x hx, c, d⟩
end Go.Proofs.YtadmfokicjjglaaGreatDoor.S
namespace Go.Proofs.YtadmfokicjjglaaGreatDoor.S
open Go
def words : List (List UInt8) := [[], [111, 112, 101, 110], [99, 108, 111, 115, 101], [102, 105, 110, 105, 115, 104], [114, 101, 115, 101, 116], [97, 112, 112, 101, 110, 100], [119, 114, 105, 116, 101], [114, 101, 97, 100], [114, 101, 103, 105, 115, 116, 101, 114], [114, 101, 115, 101, 114, 118, 101], [114, 101, 108, 101, 97, 115, 101], [112, 114, 101, 101, 109, 112, 116], [99, 108, 101, 97, 114]]
def wordOf (k : Int) : List UInt8 := words.getD k.toNat []
def idxOf (w : List UInt8) : List (List UInt8) → Int
  | [] => -1
  | x :: xs => if x = w then 0 else if idxOf w xs = -1 then -1 else idxOf w xs + 1
def heads (c : Cmd) : List Int := (if uZ c.kind = true then [c.z] else []) ++ (if uA c.kind = true then [c.pos] else []) ++ (if uN c.kind = true then [c.n] else [])
def withNums (s : List UInt8) : List Int → List UInt8
  | [] => s
  | n :: ns => withNums (s ++ 32 :: Lib.itoa n) ns
def cmdText (c : Cmd) : List UInt8 := withNums (wordOf c.kind) (heads c ++ c.d)
def cmdPrint (c : Cmd) : List UInt8 × Int := if checkCmd c ≠ 0 then ([], checkCmd c) else (cmdText c, 0)
def takeIf (b : Bool) (ns : List Int) : Option (Int × List Int) := match b, ns with
  | true, [] => none
  | true, x :: xs => some (x, xs)
  | false, ns => some (0, ns)
def cmdOf (k : Int) (ns : List Int) : Option Cmd := (takeIf (uZ k) ns).bind fun a => (takeIf (uA k) a.2).bind fun b => (takeIf (uN k) b.2).bind fun c =>
  if uD k = decide (0 < c.2.length) then some ⟨k, a.1, c.1, b.1, c.2⟩ else none
def numsOf : List (List UInt8) → Option (List Int)
  | [] => some []
  | l :: ls => match numOf l with
    | none => none
    | some n => (numsOf ls).map (n :: ·)
def cmdWords : List (List UInt8) → Cmd × Int
  | [] => (Cmd.zero, 1)
  | w :: ts => if idxOf w words < 1 then (Cmd.zero, 1) else match numsOf ts with
    | none => (Cmd.zero, 1)
    | some ns => match cmdOf (idxOf w words) ns with
      | none => (Cmd.zero, 1)
      | some c => if checkCmd c ≠ 0 then (Cmd.zero, checkCmd c) else (c, 0)
def cmdRead (l : List UInt8) : Cmd × Int := cmdWords (pieces 32 l)
def cmdParse (l : List UInt8) : Cmd × Int := if 60000 < l.length then (Cmd.zero, 2) else cmdRead l
theorem idxOf_range (w : List UInt8) : ∀ xs : List (List UInt8), -1 ≤ idxOf w xs ∧ idxOf w xs < xs.length
  | [] => by simp [idxOf]
  | x :: xs => by
    have ih := idxOf_range w xs
    unfold idxOf
    split
    · simp
    · split
      · simp; omega
      · simp; omega
theorem idxOf_at {w : List UInt8} : ∀ {xs : List (List UInt8)} {k : Nat}, idxOf w xs = k → xs[k]? = some w
  | [], k, h => by simp [idxOf] at h
  | x :: xs, k, h => by
    unfold idxOf at h
    split at h
    · rename_i hx
      have : k = 0 := by omega
      subst this
      simp [hx]
    · have ih := idxOf_range w xs
      split at h
      · omega
      · obtain ⟨m, rfl⟩ : ∃ m, k = m + 1 := ⟨k - 1, by omega⟩
        simp only [List.getElem?_cons_succ]
        exact idxOf_at (by omega)
theorem idxOf_first {w : List UInt8} : ∀ {xs : List (List UInt8)} {k : Nat}, xs[k]? = some w → (∀ j, j < k → xs[j]? ≠ some w) → idxOf w xs = k
  | [], k, h, _ => by simp at h
  | x :: xs, k, h, g => by
    unfold idxOf
    cases k with
    | zero => simp at h; rw [if_pos h]; rfl
    | succ k =>
      have hx : x ≠ w := fun e => g 0 (by omega) (by simp [e])
      have ih := idxOf_first (xs := xs) (k := k) (by simpa using h) (fun j hj => by simpa using g (j + 1) (by omega))
      rw [if_neg hx, if_neg (by omega), ih]
      simp
theorem numsOf_app : ∀ (a b : List (List UInt8)), numsOf (a ++ b) = match numsOf a with | none => none | some x => (numsOf b).map (x ++ ·)
  | [], b => by simp [numsOf]
  | l :: a, b => by
    rw [List.cons_append, numsOf, numsOf, numsOf_app a b]
    cases numOf l with
    | none => rfl
    | some n =>
      cases numsOf a with
      | none => rfl
      | some x => cases numsOf b <;> simp
theorem numsOf_len : ∀ {ls : List (List UInt8)} {ns : List Int}, numsOf ls = some ns → ns.length = ls.length
  | [], ns, h => by cases h; rfl
  | l :: ls, ns, h => by
    unfold numsOf at h
    split at h
    · cases h
    · cases hr : numsOf ls with
      | none => rw [hr] at h; cases h
      | some x => rw [hr] at h; cases h; simp [numsOf_len hr]
theorem numsOf_bad : ∀ {ls : List (List UInt8)} {k : Nat} {x : List UInt8}, ls[k]? = some x → numOf x = none → numsOf ls = none
  | [], k, x, h, _ => by simp at h
  | l :: ls, 0, x, h, g => by
    simp at h
    subst h
    rw [numsOf, g]
  | l :: ls, k + 1, x, h, g => by
    rw [numsOf, numsOf_bad (by simpa using h) g]
    cases numOf l <;> rfl
theorem numsOf_take {ls : List (List UInt8)} {k : Nat} {x : List UInt8} {ns : List Int} {n : Int} (h : ls[k]? = some x) (g : numsOf (ls.take k) = some ns) (e : numOf x = some n) : numsOf (ls.take (k + 1)) = some (ns ++ [n]) := by
  have : ls.take (k + 1) = ls.take k ++ [x] := by
    obtain ⟨h1, h2⟩ := List.getElem?_eq_some_iff.1 h
    rw [List.take_succ_eq_append_getElem h1, h2]
  rw [this, numsOf_app, g]
  simp [numsOf, e]
/-! what is printed is read -/
theorem bad_iff {n : Int} : bad n = false ↔ 0 ≤ n ∧ n ≤ 999 := by simp [bad]
theorem checkCmd_ok {c : Cmd} (h : checkCmd c = 0) : 1 ≤ c.kind ∧ c.kind ≤ 12 ∧ misused c = false ∧ c.d.length ≤ 8 ∧ (0 ≤ c.z ∧ c.z ≤ 999) ∧ (0 ≤ c.pos ∧ c.pos ≤ 999) ∧ (0 ≤ c.n ∧ c.n ≤ 999) ∧ ∀ x, x ∈ c.d → 0 ≤ x ∧ x ≤ 999 := by
  unfold checkCmd at h
  split at h
  · cases h
  · split at h
    · cases h
    · split at h
      · cases h
      · split at h
        · cases h
        · rename_i h1 h2 h3 h4
          simp only [List.any_cons, Bool.or_eq_true, not_or, Bool.not_eq_true] at h4
          obtain ⟨a, b, e, d⟩ := h4
          refine ⟨by omega, by omega, by simpa using h2, by omega, bad_iff.1 a, bad_iff.1 b, bad_iff.1 e, fun x hx => bad_iff.1 ?_⟩
          have := List.any_eq_false.1 d x hx
          simpa using this
theorem kinds12 {k : Int} (h1 : 1 ≤ k) (h2 : k ≤ 12) : k = 1 ∨ k = 2 ∨ k = 3 ∨ k = 4 ∨ k = 5 ∨ k = 6 ∨ k = 7 ∨ k = 8 ∨ k = 9 ∨ k = 10 ∨ k = 11 ∨ k = 12 := by omega
end Go.Proofs.YtadmfokicjjglaaGreatDoor.S
namespace Go.Proofs.YtadmfokicjjglaaGreatDoor.S
open Go
theorem idx_word : ∀ K : Fin 13, 1 ≤ K.val → idxOf (wordOf (K.val : Int)) words = K.val ∧ (wordOf (K.val : Int)).length ≤ 8 ∧ (32 : UInt8) ∉ wordOf (K.val : Int) := by decide
theorem idx_words {k : Int} (h1 : 1 ≤ k) (h2 : k ≤ 12) : idxOf (wordOf k) words = k ∧ (wordOf k).length ≤ 8 ∧ (32 : UInt8) ∉ wordOf k := by
  obtain ⟨K, rfl⟩ : ∃ K : Nat, k = K := ⟨k.toNat, by omega⟩
  exact idx_word ⟨K, by omega⟩ (by simp; omega)
theorem heads_in {c : Cmd} (hz : 0 ≤ c.z ∧ c.z ≤ 999) (hp : 0 ≤ c.pos ∧ c.pos ≤ 999) (hn : 0 ≤ c.n ∧ c.n ≤ 999) : ∀ n, n ∈ heads c → 0 ≤ n ∧ n ≤ 999 := by
  intro n h
  unfold heads at h
  simp only [List.mem_append] at h
  rcases h with (h | h) | h <;> (split at h) <;> simp at h <;> subst h <;> assumption
theorem heads_len (c : Cmd) : (heads c).length ≤ 3 := by
  unfold heads
  simp only [List.length_append]
  split <;> split <;> split <;> simp
theorem withNums_len (b : Nat) : ∀ (ns : List Int) (s : List UInt8), (∀ n, n ∈ ns → (Lib.itoa n).length ≤ b) → (withNums s ns).length ≤ s.length + ns.length * (b + 1)
  | [], s, _ => by simp [withNums]
  | n :: ns, s, h => by
    rw [withNums]
    have h1 := withNums_len b ns (s ++ 32 :: Lib.itoa n) (fun m hm => h m (by simp [hm]))
    have h2 := h n (by simp)
    simp only [List.length_append, List.length_cons] at h1 ⊢
    rw [Nat.add_mul]
    omega
theorem cmdText_len {c : Cmd} (h : checkCmd c = 0) : (cmdText c).length ≤ 52 := by
  obtain ⟨k1, k12, hm, hd, hz, hp, hn, hb⟩ := checkCmd_ok h
  have h1 := withNums_len 3 (heads c ++ c.d) (wordOf c.kind) (fun n hn' => by
    have : 0 ≤ n ∧ n ≤ 999 := by
      rcases List.mem_append.1 hn' with g | g
      · exact heads_in hz hp hn n g
      · exact hb n g
    exact (itoa_facts this.1 (by omega)).2.2.2)
  have h2 := (idx_words k1 k12).2.1
  have h3 := heads_len c
  have h4 : (heads c ++ c.d).length * (3 + 1) ≤ 11 * 4 := Nat.mul_le_mul (by simp; omega) (by omega)
  unfold cmdText
  omega
end Go.Proofs.YtadmfokicjjglaaGreatDoor.S
namespace Go.Proofs.YtadmfokicjjglaaGreatDoor.S
open Go
def numP (l : List UInt8) : Int × Bool := match Lib.atoiAll l with
  | .ok v => (v, decide (Lib.itoa v = l))
  | .range => (Lib.atoiSat l, false)
  | _ => (0, false)
/-! parting -/
theorem cut_len (l sep : List UInt8) : (Lib.cut l sep).1.length ≤ l.length ∧ (Lib.cut l sep).2.1.length ≤ l.length := by
  unfold Lib.cut
  split
  · simp only [List.length_take, List.length_drop]; omega
  · simp
/-! records -/
def recText (r : Rec) : List UInt8 := Lib.itoa r.who ++ 32 :: (Lib.itoa r.seq ++ 58 :: 32 :: cmdText r.c)
def recPrint (r : Rec) : List UInt8 × Int := if checkRec r ≠ 0 then ([], checkRec r) else (recText r, 0)
def recOf (a b : Int) (y : List UInt8) : Rec × Int :=
  if (cmdParse y).2 ≠ 0 then (Rec.zero, (cmdParse y).2)
  else if checkRec ⟨a, b, (cmdParse y).1⟩ ≠ 0 then (Rec.zero, checkRec ⟨a, b, (cmdParse y).1⟩)
  else (⟨a, b, (cmdParse y).1⟩, 0)
def recParse (l : List UInt8) : Rec × Int :=
  if 60000 < l.length then (Rec.zero, 2)
  else if ((Lib.cut l [58, 32]).2.2 && (Lib.cut (Lib.cut l [58, 32]).1 [32]).2.2 && (numP (Lib.cut (Lib.cut l [58, 32]).1 [32]).1).2 && (numP (Lib.cut (Lib.cut l [58, 32]).1 [32]).2.1).2) = false then (Rec.zero, 1)
  else recOf (numP (Lib.cut (Lib.cut l [58, 32]).1 [32]).1).1 (numP (Lib.cut (Lib.cut l [58, 32]).1 [32]).2.1).1 (Lib.cut l [58, 32]).2.1
theorem checkRec_ok {r : Rec} (h : checkRec r = 0) : (0 ≤ r.who ∧ r.who < 3) ∧ (1 ≤ r.seq ∧ r.seq ≤ 40) ∧ checkCmd r.c = 0 := by
  unfold checkRec at h
  split at h
  · cases h
  · exact ⟨by omega, by omega, h⟩
theorem recText_len {r : Rec} (h : checkRec r = 0) : (recText r).length ≤ 61 := by
  obtain ⟨hw, hs, hc⟩ := checkRec_ok h
  have l1 := (itoa_facts (n := r.who) hw.1 (by omega)).2.2.2
  have l2 := (itoa_facts (n := r.seq) (by omega) (by omega)).2.2.2
  have l3 := cmdText_len hc
  simp [recText]
  omega
end Go.Proofs.YtadmfokicjjglaaGreatDoor.S
namespace Go.Proofs.YtadmfokicjjglaaGreatDoor.S
open Go
structure Disk where
  safe : List UInt8
  wait : List UInt8
deriving DecidableEq
def Disk.zero : Disk := ⟨[], []⟩
def linesF : Nat → List UInt8 → Int → List Rec × Nat × Int
  | 0, _, _ => ([], 0, 0)
  | f + 1, s, m => if s = [] then ([], 0, 0) else match cut1 10 s with
    | none => ([], s.length, 9)
    | some (x, y) => if (recParse x).2 ≠ 0 then ([], s.length, (recParse x).2) else if m = 0 then ([], s.length, 2)
      else ((recParse x).1 :: (linesF f y (m - 1)).1, (linesF f y (m - 1)).2)
theorem cut1_len {c : UInt8} {l x y : List UInt8} (h : cut1 c l = some (x, y)) : l.length = x.length + y.length + 1 := by
  rw [(cut1_some h).1]; simp; omega
theorem linesF_more : ∀ (f g : Nat) (s : List UInt8) (m : Int), s.length ≤ f → s.length ≤ g → linesF f s m = linesF g s m
  | 0, 0, _, _, _, _ => rfl
  | 0, g + 1, s, m, h, _ => by
    have : s = [] := List.eq_nil_of_length_eq_zero (by omega)
    subst this; rfl
  | f + 1, 0, s, m, _, h => by
    have : s = [] := List.eq_nil_of_length_eq_zero (by omega)
    subst this; rfl
  | f + 1, g + 1, s, m, hf, hg => by
    unfold linesF
    cases hc : cut1 10 s with
    | none => rfl
    | some p =>
      obtain ⟨x, y⟩ := p
      have := cut1_len hc
      simp only
      rw [linesF_more f g y (m - 1) (by omega) (by omega)]
def lines (s : List UInt8) (m : Int) : List Rec × Nat × Int := linesF s.length s m
theorem lines_nil (m : Int) : lines [] m = ([], 0, 0) := rfl
theorem lines_none {s : List UInt8} (m : Int) (h : s ≠ []) (hc : cut1 10 s = none) : lines s m = ([], s.length, 9) := by
  unfold lines
  cases s with
  | nil => exact absurd rfl h
  | cons b s => rw [List.length_cons, linesF, if_neg h, hc]; rfl
theorem lines_some {s x y : List UInt8} (m : Int) (hc : cut1 10 s = some (x, y)) : lines s m = if (recParse x).2 ≠ 0 then ([], s.length, (recParse x).2) else if m = 0 then ([], s.length, 2) else ((recParse x).1 :: (lines y (m - 1)).1, (lines y (m - 1)).2) := by
  have hl := cut1_len hc
  unfold lines
  obtain ⟨k, hk⟩ : ∃ k, s.length = k + 1 := ⟨x.length + y.length, hl⟩
  have hne : s ≠ [] := fun e => by subst e; cases hk
  rw [hk, linesF, if_neg hne, hc]
  simp only
  rw [linesF_more k y.length y (m - 1) (by omega) (by omega), hk]
def checkDisk (d : Disk) : Int := if 60000 < d.safe.length ∨ 60000 < d.wait.length + d.safe.length then 2 else (lines d.safe 80).2.2
def putDisk (d : Disk) (r : Rec) : Disk × Int :=
  if checkDisk d ≠ 0 then (Disk.zero, checkDisk d)
  else if checkRec r ≠ 0 then (Disk.zero, checkRec r)
  else if 60000 < (recText r).length + 1 + d.safe.length + d.wait.length then (Disk.zero, 2)
  else (⟨d.safe, d.wait ++ recText r ++ [10]⟩, 0)
def syncDisk (d : Disk) : Disk × Int :=
  if checkDisk d ≠ 0 then (Disk.zero, checkDisk d)
  else if checkDisk ⟨d.safe ++ d.wait, []⟩ ≠ 0 then (Disk.zero, checkDisk ⟨d.safe ++ d.wait, []⟩)
  else (⟨d.safe ++ d.wait, []⟩, 0)
def crashDisk (d : Disk) (n : Int) : Disk × Int :=
  if checkDisk d ≠ 0 then (Disk.zero, checkDisk d)
  else if n < 0 ∨ (d.wait.length : Int) < n then (Disk.zero, 3)
  else (⟨d.safe, d.wait.take n.toNat⟩, 0)
def kept (d : Disk) : List Rec × Nat × Int := lines d.wait (80 - ((lines d.safe 80).1.length : Int))
def recoverDisk (d : Disk) : Disk × List Rec × Int :=
  if checkDisk d ≠ 0 then (Disk.zero, [], checkDisk d)
  else (⟨d.safe ++ d.wait.take (d.wait.length - (kept d).2.1), []⟩, (lines d.safe 80).1 ++ (kept d).1, 0)
theorem linesF_left : ∀ (f : Nat) (s : List UInt8) (m : Int), (linesF f s m).2.1 ≤ s.length ∧ (linesF f s m).1.length ≤ s.length
  | 0, s, m => by simp [linesF]
  | f + 1, s, m => by
    unfold linesF
    split
    · simp
    · split
      · simp
      · rename_i x y hc
        have h1 := cut1_len hc
        have h2 := linesF_left f y (m - 1)
        split
        · simp
        · split
          · simp
          · simp only [List.length_cons]; omega
theorem lines_left (s : List UInt8) (m : Int) : (lines s m).2.1 ≤ s.length ∧ (lines s m).1.length ≤ s.length := linesF_left _ _ _
theorem linesF_room : ∀ (f : Nat) (s : List UInt8) (m : Int), 0 ≤ m → ((linesF f s m).1.length : Int) ≤ m
  | 0, s, m, h => by simp [linesF]; omega
  | f + 1, s, m, h => by
    unfold linesF
    split
    · simp; omega
    · split
      · simp; omega
      · split
        · simp; omega
        · split
          · simp; omega
          · have := linesF_room f (by assumption) (m - 1) (by omega)
            simp only [List.length_cons]; omega
theorem lines_room (s : List UInt8) {m : Int} (h : 0 ≤ m) : ((lines s m).1.length : Int) ≤ m := linesF_room _ _ _ h
end Go.Proofs.YtadmfokicjjglaaGreatDoor.S
namespace Go.Proofs.YtadmfokicjjglaaGreatDoor.S
open Go
/-! records replayed in parts -/
end Go.Proofs.YtadmfokicjjglaaGreatDoor.S
namespace Go.Proofs.YtadmfokicjjglaaGreatDoor.S
open Go
def hasN (k : Int) : List UInt8 := (if uZ k = true then [122] else []) ++ (if uA k = true then [97] else []) ++ (if uN k = true then [110] else [])
def hasS (k : Int) : List UInt8 := hasN k ++ (if uD k = true then [100] else [])
def numsAt (c : Cmd) (x : UInt8) : List Int := if x = 122 then [c.z] else if x = 97 then [c.pos] else if x = 110 then [c.n] else c.d
theorem nums_has {c : Cmd} (h : misused c = false) : (hasS c.kind).flatMap (numsAt c) = heads c ++ c.d := by
  obtain ⟨k, z, n, p, d⟩ := c
  unfold misused at h
  unfold hasS hasN heads
  simp only at h ⊢
  generalize uZ k = b1 at *
  generalize uA k = b2 at *
  generalize uN k = b3 at *
  generalize uD k = b4 at *
  simp only [Bool.or_eq_false_iff] at h
  have h4 : b4 = decide (0 < d.length) := by have := h.2; simpa using this
  subst h4
  clear h
  cases d <;> cases b1 <;> cases b2 <;> cases b3 <;> simp [numsAt]
theorem text_has {c : Cmd} (h : checkCmd c = 0) : cmdText c = withNums (wordOf c.kind) ((hasS c.kind).flatMap (numsAt c)) := by
  rw [nums_has (checkCmd_ok h).2.2.1]
  rfl
def put1 (c : Cmd) (x : UInt8) (v : Int) : Cmd := if x = 122 then { c with z := v } else if x = 97 then { c with pos := v } else { c with n := v }
def setL : List UInt8 → List Int → Cmd → Cmd
  | x :: xs, v :: vs, c => setL xs vs (put1 c x v)
  | _, _, c => c
def misfit (k : Int) (ns : List Int) : Bool := decide (ns.length < (hasN k).length) || (decide (ns.length = (hasN k).length) && uD k) || (decide ((hasN k).length < ns.length) && !uD k)
def readOf (k : Int) (ns : List Int) : Option Cmd := if misfit k ns = true then none else some (setL (hasN k) ns ⟨k, 0, 0, 0, ns.drop (hasN k).length⟩)
theorem readOf_eq {k : Int} (h1 : 1 ≤ k) (h2 : k ≤ 12) (ns : List Int) : readOf k ns = cmdOf k ns := by
  have hu : (uZ k = true ∧ uA k = false ∧ uN k = false ∧ uD k = false) ∨ (uZ k = true ∧ uA k = false ∧ uN k = false ∧ uD k = true) ∨ (uZ k = true ∧ uA k = true ∧ uN k = false ∧ uD k = true) ∨ (uZ k = true ∧ uA k = true ∧ uN k = true ∧ uD k = false) ∨ (uZ k = false ∧ uA k = false ∧ uN k = true ∧ uD k = false) ∨ (uZ k = false ∧ uA k = false ∧ uN k = false ∧ uD k = false) := by
    rcases kinds12 h1 h2 with rfl | rfl | rfl | rfl | rfl | rfl | rfl | rfl | rfl | rfl | rfl | rfl <;> decide
  unfold readOf misfit cmdOf hasN
  rcases hu with ⟨a, b, c, d⟩ | ⟨a, b, c, d⟩ | ⟨a, b, c, d⟩ | ⟨a, b, c, d⟩ | ⟨a, b, c, d⟩ | ⟨a, b, c, d⟩ <;> rw [a, b, c, d] <;> rcases ns with _ | ⟨x, _ | ⟨y, _ | ⟨u, _ | ⟨v, ns⟩⟩⟩⟩ <;> simp [takeIf, setL, put1]
def LeftP (c : UInt8) (ts : List (List UInt8)) (rest : List UInt8) (more : Bool) : Prop := (more = true ∧ pieces c rest = ts) ∨ (more = false ∧ ts = [])
theorem left_cut {c : UInt8} {l u v w : List UInt8} {b : Bool} {ts : List (List UInt8)} (h : Lib.cut l [c] = (u, v, b)) (hp : pieces c l = w :: ts) : u = w ∧ LeftP c ts v b := by
  rw [cut_one] at h
  rw [pieces_cut] at hp
  cases hc : cut1 c l with
  | none =>
    rw [hc] at hp h
    simp only [List.cons.injEq, Prod.mk.injEq] at hp h
    obtain ⟨rfl, rfl, rfl⟩ := h
    exact ⟨hp.1, Or.inr ⟨rfl, hp.2.symm⟩⟩
  | some p =>
    obtain ⟨x, y⟩ := p
    rw [hc] at hp h
    simp only [List.cons.injEq, Prod.mk.injEq] at hp h
    obtain ⟨rfl, rfl, rfl⟩ := h
    exact ⟨hp.1, Or.inl ⟨rfl, hp.2⟩⟩
/-! places -/
theorem indexByte_one (c : UInt8) : ∀ l : List UInt8, Lib.indexByte l c = match cut1 c l with | some (x, _) => (x.length : Int) | none => -1
  | [] => rfl
  | b :: l => by
    have ih := indexByte_one c l
    unfold Lib.indexByte cut1
    by_cases h : b = c
    · simp [h]
    · have hb : (b == c) = false := by simp [h]
      rw [ih, hb, if_neg h]
      cases cut1 c l with
      | none => rfl
      | some p =>
        obtain ⟨x, y⟩ := p
        have h1 : ((x.length : Int) == -1) = false := by simp
        simp [h1]
theorem cut_at {l sep : List UInt8} (h : 0 < sep.length) : (Lib.index l sep = -1 ∧ Lib.cut l sep = (l, [], false)) ∨ ∃ K : Nat, Lib.index l sep = K ∧ K + sep.length ≤ l.length ∧ Lib.cut l sep = (l.take K, l.drop (K + sep.length), true) := by
  rcases Lib.index_spec l sep with ⟨h1, -⟩ | ⟨K, h1, h2, h3, -⟩
  · exact Or.inl ⟨h1, by unfold Lib.cut; rw [h1]; rfl⟩
  · refine Or.inr ⟨K, h1, ?_, by unfold Lib.cut; rw [h1, if_pos (by omega)]; simp⟩
    unfold Lib.occAt at h3
    obtain ⟨t, ht⟩ := List.isPrefixOf_iff_prefix.1 h3
    have := congrArg List.length ht
    simp at this
    omega
theorem cmdParse_read {l : List UInt8} (h : l.length ≤ 60000) : cmdParse l = cmdRead l := by
  unfold cmdParse
  rw [if_neg (by omega)]
/-! lines, each with its end -/
def after (c : UInt8) : List UInt8 → List (List UInt8)
  | [] => [[]]
  | b :: l => if b = c then [b] :: after c l else match after c l with
    | x :: xs => (b :: x) :: xs
    | [] => [[b]]
theorem after_none {c : UInt8} : ∀ {l : List UInt8}, c ∉ l → after c l = [l]
  | [], _ => rfl
  | b :: l, h => by
    simp only [List.mem_cons, not_or] at h
    unfold after
    rw [if_neg (fun e => h.1 e.symm), after_none h.2]
theorem after_app {c : UInt8} : ∀ {x : List UInt8} (y : List UInt8), c ∉ x → after c (x ++ c :: y) = (x ++ [c]) :: after c y
  | [], y, _ => by simp [after]
  | b :: x, y, h => by
    simp only [List.mem_cons, not_or] at h
    show after c (b :: (x ++ c :: y)) = _
    rw [after, if_neg (fun e => h.1 e.symm), after_app y h.2]
    rfl
theorem after_cut (c : UInt8) (l : List UInt8) : after c l = match cut1 c l with | some (x, y) => (x ++ [c]) :: after c y | none => [l] := by
  cases h : cut1 c l with
  | none => exact after_none (cut1_none.1 h)
  | some p =>
    obtain ⟨x, y⟩ := p
    obtain ⟨h1, h2⟩ := cut1_some h
    rw [h1, after_app y h2]
theorem splitK_after (c : UInt8) : ∀ (k : Nat) (l : List UInt8), l.count c ≤ k → Lib.splitK [c] 1 k l = after c l
  | 0, l, h => by
    have : c ∉ l := List.count_eq_zero.1 (by omega)
    rw [after_none this]
    rfl
  | k + 1, l, h => by
    unfold Lib.splitK
    rw [after_cut, index_one]
    cases hc : cut1 c l with
    | none => rfl
    | some p =>
      obtain ⟨x, y⟩ := p
      obtain ⟨h1, h2⟩ := cut1_some hc
      simp only
      have hne : ((x.length : Int) == -1) = false := by simp
      rw [hne]
      have hcy : y.count c ≤ k := by rw [h1] at h; simp at h; omega
      have e1 : (x.length : Int).toNat = x.length := by omega
      have e2 : l.take (x.length + 1) = x ++ [c] := by
        have e : l = (x ++ [c]) ++ y := by rw [h1]; simp
        rw [e]
        exact List.take_left' (by simp)
      have e3 : l.drop (x.length + [c].length) = y := by rw [h1]; simp
      rw [e1, e2, e3, splitK_after c k y hcy]
      rfl
theorem split_after (c : UInt8) (l : List UInt8) : Lib.splitK [c] 1 (Lib.count l [c]) l = after c l :=
  splitK_after c _ l (by unfold Lib.count; rw [countFrom_one c _ l (by omega)]; exact Nat.le_refl _)
theorem after_len (c : UInt8) : ∀ l : List UInt8, (after c l).length ≤ l.length + 1
  | [] => by simp [after]
  | b :: l => by
    have ih := after_len c l
    rw [after]
    split
    · simp; omega
    · split
      · rename_i x xs hp; rw [hp] at ih; simp at ih ⊢; omega
      · simp
theorem after_first {c : UInt8} {l t : List UInt8} {ts : List (List UInt8)} (h : after c l = t :: ts) : (cut1 c l = none ∧ t = l ∧ ts = []) ∨ ∃ x y, cut1 c l = some (x, y) ∧ t = x ++ [c] ∧ after c y = ts := by
  rw [after_cut] at h
  cases hc : cut1 c l with
  | none =>
    rw [hc] at h
    simp only [List.cons.injEq] at h
    exact Or.inl ⟨rfl, h.1.symm, h.2.symm⟩
  | some p =>
    obtain ⟨x, y⟩ := p
    rw [hc] at h
    simp only [List.cons.injEq] at h
    exact Or.inr ⟨x, y, rfl, h.1.symm, h.2⟩
end Go.Proofs.YtadmfokicjjglaaGreatDoor.S
