/- Sq: SpecText: texts parted, numbers as texts, commands as texts, in plain Lean; no program is named here. SpecCmd: commands as texts, in plain Lean; no program is named here. SpecBack: what is printed is read, what is read is printed as it was: commands. SpecNote: records as texts, in plain Lean; no program is named here. SpecDisk: disks: lines of records, put, synced, crashed, recovered, in plain Lean; no program is named here. SpecParts: whole lines of records on a disk; what is put and synced is there; records replayed in parts. No program is named here. SpecWorld: worlds, happenings, stories, as plain functions on plain data. No program is named here. SpecRefs: commands as texts, as the reference prints and reads them, in plain Lean; no program is named here. -/
import Derived.Test.YtadmfokicjjglaaGreatDoorSp
import Derived.Lib.AtoiAll
import Derived.Lib.AtoiAllCases
import Derived.Lib.ItoaNum
import Derived.Lib.IndexLaws
import Derived.Lib.IndexMore
import Derived.Lib.Split
namespace Go.Proofs.YtadmfokicjjglaaGreatDoor.S
open Go
def cut1 (c : UInt8) : List UInt8 -> Option (List UInt8 × List UInt8)
 | [] => none
 | b :: l => if b = c then some ([], l) else match cut1 c l with
  | some (x, y) => some (b :: x, y)
  | none => none
theorem cut1_some {c : UInt8} : ∀ {l x y : List UInt8}, cut1 c l = some (x, y) -> l = x ++ c :: y /\ c ∉ x
 | [], x, y, h => by simp [cut1] at h
 | b :: l, x, y, h => by
  unfold cut1 at h;split at h
  ·rename_i hb;simp only [Option.some.injEq, Prod.mk.injEq] at h;obtain ⟨rfl, rfl⟩ := h;subst hb;simp
  ·rename_i hb;split at h
   ·rename_i x' y' hc;simp only [Option.some.injEq, Prod.mk.injEq] at h;obtain ⟨rfl, rfl⟩ := h;obtain ⟨h1, h2⟩ := cut1_some hc;refine ⟨by rw [h1]; rfl, ?_⟩;simp only [List.mem_cons, not_or];exact ⟨fun e => hb e.symm, h2⟩
   ·cases h
theorem cut1_none {c : UInt8} : ∀ {l : List UInt8}, cut1 c l = none ↔ c ∉ l
 | [] => by simp [cut1]
 | b :: l => by
  unfold cut1;split
  ·rename_i hb; subst hb; simp
  ·rename_i hb;have ih := cut1_none (c := c) (l := l);split
   ·rename_i x y hc;rw [hc] at ih;simp at ih;simp [ih]
   ·rename_i hc;rw [hc] at ih;simp at ih;simp only [List.mem_cons, not_or, true_iff];exact ⟨fun e => hb e.symm, ih⟩
theorem cut1_app {c : UInt8} : ∀ {x : List UInt8} (y : List UInt8), c ∉ x -> cut1 c (x ++ c :: y) = some (x, y)
 | [], y, _ => by simp [cut1]
 | b :: x, y, h => by
  simp only [List.mem_cons, not_or] at h;show cut1 c (b :: (x ++ c :: y)) = _;unfold cut1;rw [if_neg (fun e => h.1 e.symm), cut1_app y h.2]
def pieces (c : UInt8) : List UInt8 -> List (List UInt8)
 | [] => [[]]
 | b :: l => if b = c then [] :: pieces c l else match pieces c l with
  | x :: xs => (b :: x) :: xs
  | [] => [[b]]
theorem pieces_ne (c : UInt8) (l : List UInt8) : pieces c l ≠ [] := by
 cases l with
 | nil => simp [pieces]
 | cons b l =>
  unfold pieces;split
  ·simp
  ·split <;> simp
theorem pieces_none {c : UInt8} : ∀ {l : List UInt8}, c ∉ l -> pieces c l = [l]
 | [], _ => rfl
 | b :: l, h => by
  simp only [List.mem_cons, not_or] at h;unfold pieces;rw [if_neg (fun e => h.1 e.symm), pieces_none h.2]
theorem pieces_app {c : UInt8} : ∀ {x : List UInt8} (y : List UInt8), c ∉ x -> pieces c (x ++ c :: y) = x :: pieces c y
 | [], y, _ => by simp [pieces]
 | b :: x, y, h => by
  simp only [List.mem_cons, not_or] at h;show pieces c (b :: (x ++ c :: y)) = _;rw [pieces, if_neg (fun e => h.1 e.symm), pieces_app y h.2]
theorem pieces_cut (c : UInt8) (l : List UInt8) : pieces c l = match cut1 c l with | some (x, y) => x :: pieces c y | none => [l] := by
 cases h : cut1 c l with
 | none => exact pieces_none (cut1_none.1 h)
 | some p =>
  obtain ⟨x, y⟩ := p;obtain ⟨h1, h2⟩ := cut1_some h;rw [h1, pieces_app y h2]
theorem pieces_len (c : UInt8) : ∀ l : List UInt8, (pieces c l).length <= l.length + 1
 | [] => by simp [pieces]
 | b :: l => by
  have ih := pieces_len c l;rw [pieces];split
  ·simp; omega
  ·split
   ·rename_i x xs hp; rw [hp] at ih; simp at ih ⊢; omega
   ·simp
theorem pieces_mem (c : UInt8) : ∀ (l x : List UInt8), x ∈ pieces c l -> x.length <= l.length
 | [], x, h => by simp [pieces] at h; simp [h]
 | b :: l, x, h => by
  have ih := pieces_mem c l;rw [pieces] at h;split at h
  ·simp only [List.mem_cons] at h;rcases h with rfl | h
   ·simp
   ·have := ih x h; simp; omega
  ·split at h
   ·rename_i y ys hp;simp only [List.mem_cons] at h;rcases h with rfl | h
    ·have := ih y (by rw [hp]; simp); simp; omega
    ·have := ih x (by rw [hp]; simp [h]); simp; omega
   ·rename_i hp; exact absurd hp (pieces_ne _ _)
def joined (c : UInt8) : List (List UInt8) -> List UInt8
 | [] => []
 | [x] => x
 | x :: y :: l => x ++ c :: joined c (y :: l)
theorem joined_pieces (c : UInt8) : ∀ l : List UInt8, joined c (pieces c l) = l
 | [] => rfl
 | b :: l => by
  have ih := joined_pieces c l;unfold pieces;split
  ·rename_i hb;subst hb;cases hp : pieces b l with
   | nil => exact absurd hp (pieces_ne _ _)
   | cons x xs => rw [hp] at ih; simp only [joined, List.nil_append, ih]
  ·split
   ·rename_i x xs hp;rw [hp] at ih;cases xs with
    | nil => simp only [joined] at ih ⊢; rw [ih]
    | cons y ys => simp only [joined, List.cons_append] at ih ⊢; rw [ih]
   ·rename_i hp; exact absurd hp (pieces_ne _ _)
theorem pieces_joined {c : UInt8} : ∀ {ls : List (List UInt8)}, ls ≠ [] -> (∀ x, x ∈ ls -> c ∉ x) -> pieces c (joined c ls) = ls
 | [], h, _ => absurd rfl h
 | [x], _, h => by simp only [joined]; exact pieces_none (h x (by simp))
 | x :: y :: l, _, h => by
  simp only [joined];rw [pieces_app _ (h x (by simp)), pieces_joined (by simp) (fun z hz => h z (by simp [hz]))]
theorem occAt_one (l : List UInt8) (c : UInt8) (i : Nat) : Lib.occAt l [c] i = decide (l[i]? = some c) := by
 unfold Lib.occAt;cases h : l.drop i with
 | nil =>
  have : l[i]? = none := by rw [List.getElem?_eq_none]; simpa using List.drop_eq_nil_iff.1 h
  simp [this]
 | cons b t =>
  have : l[i]? = some b := by
   have := List.getElem?_drop (xs := l) (i := i) (j := 0);rw [h] at this;simpa using this.symm
  rw [this];simp [List.isPrefixOf, Bool.beq_eq_decide_eq, eq_comm]
theorem index_one (c : UInt8) (l : List UInt8) : Lib.index l [c] = match cut1 c l with | some (x, _) => (x.length : Int) | none => -1 := by
 cases h : cut1 c l with
 | none =>
  have hn := cut1_none.1 h;refine Lib.index_none fun j hj => ?_
  rw [occAt_one];simp only [decide_eq_false_iff_not];exact fun e => hn (List.mem_of_getElem? e)
 | some p =>
  obtain ⟨x, y⟩ := p;obtain ⟨h1, h2⟩ := cut1_some h;refine Lib.index_first (i := x.length) (by rw [h1]; simp) (by rw [occAt_one, h1]; simp) fun j hj => ?_
  rw [occAt_one, h1];simp only [decide_eq_false_iff_not];rw [List.getElem?_append_left hj];exact fun e => h2 (List.mem_of_getElem? e)
theorem cut_one (c : UInt8) (l : List UInt8) : Lib.cut l [c] = match cut1 c l with | some (x, y) => (x, y, true) | none => (l, [], false) := by
 unfold Lib.cut;rw [index_one];cases h : cut1 c l with
 | none => rfl
 | some p =>
  obtain ⟨x, y⟩ := p;obtain ⟨h1, h2⟩ := cut1_some h;simp only;rw [if_pos (by omega)];simp [h1]
theorem splitK_one (c : UInt8) : ∀ (k : Nat) (l : List UInt8), l.count c <= k -> Lib.splitK [c] 0 k l = pieces c l
 | 0, l, h => by
  have : c ∉ l := List.count_eq_zero.1 (by omega);rw [pieces_none this];rfl
 | k + 1, l, h => by
  unfold Lib.splitK;rw [pieces_cut, index_one];cases hc : cut1 c l with
  | none => rfl
  | some p =>
   obtain ⟨x, y⟩ := p;obtain ⟨h1, h2⟩ := cut1_some hc;simp only;have hne : ((x.length : Int) == -1) = false := by simp
   rw [hne];have hcy : y.count c <= k := by rw [h1] at h; simp at h; omega
   have e1 : (x.length : Int).toNat = x.length := by omega
   have e2 : l.take (x.length + 0) = x := by rw [h1]; simp
   have e3 : l.drop (x.length + [c].length) = y := by rw [h1]; simp
   rw [e1, e2, e3, splitK_one c k y hcy];rfl
theorem countFrom_one (c : UInt8) : ∀ (f : Nat) (l : List UInt8), l.length < f -> Lib.countFrom [c] f l = l.count c
 | 0, l, h => by omega
 | f + 1, l, h => by
  unfold Lib.countFrom;rw [index_one];cases hc : cut1 c l with
  | none =>
   have := cut1_none.1 hc;simp [List.count_eq_zero.2 this]
  | some p =>
   obtain ⟨x, y⟩ := p;obtain ⟨h1, h2⟩ := cut1_some hc;simp only;have hne : ((x.length : Int) == -1) = false := by simp
   rw [hne];have e1 : (x.length : Int).toNat = x.length := by omega
   have e3 : l.drop (x.length + [c].length) = y := by rw [h1]; simp
   rw [e1, e3, countFrom_one c f y (by rw [h1] at h; simp at h; omega), h1];simp [List.count_eq_zero.2 h2];omega
theorem split_one (c : UInt8) (l : List UInt8) : Lib.splitK [c] 0 (Lib.count l [c]) l = pieces c l :=
 splitK_one c _ l (by unfold Lib.count; rw [countFrom_one c _ l (by omega)]; exact Nat.le_refl _)
def numOf (l : List UInt8) : Option Int := match Lib.atoiAll l with
 | .ok v => if Lib.itoa v = l then some v else none
 | _ => none
theorem numOf_some {l : List UInt8} {v : Int} (h : numOf l = some v) : l = Lib.itoa v /\ Lib.atoiAll l = .ok v := by
 unfold numOf at h;split at h
 ·rename_i u hu;split at h
  ·rename_i he; cases h; exact ⟨he.symm, hu⟩
  ·cases h
 ·cases h
def dig3 (i : Nat) : List UInt8 := if i < 10 then [UInt8.ofNat (48 + i)] else if i < 100 then [UInt8.ofNat (48 + i / 10), UInt8.ofNat (48 + i % 10)] else [UInt8.ofNat (48 + i / 100), UInt8.ofNat (48 + i / 10 % 10), UInt8.ofNat (48 + i % 10)]
theorem itoa_small {i : Nat} (h : i < 1000) : Lib.itoa (i : Int) = dig3 i := by
 have e : Lib.itoa (i : Int) = Lib.decDigits i := by
  unfold Lib.itoa;rw [if_neg (by omega)];rfl
 rw [e];unfold dig3;split
 ·rename_i h1; exact Lib.decDigits_one h1
 ·rename_i h1;split
  ·rename_i h2; exact Lib.decDigits_two h1 h2
  ·rename_i h2;rw [Lib.decDigits, dif_neg h1, Lib.decDigits_two (by omega) (by omega)];simp only [List.cons_append, List.nil_append];have : i / 10 / 10 = i / 100 := by omega
   rw [this]
theorem atoi_dig3 : ∀ i : Fin 1000, Lib.atoiAll (dig3 i.val) = .ok (i.val : Int) /\ (dig3 i.val).all (fun b => decide (48 <= b.toNat /\ b.toNat <= 57)) = true /\ dig3 i.val ≠ [] /\ (dig3 i.val).length <= 3 := by decide +kernel
theorem itoa_facts {n : Int} (h0 : 0 <= n) (h1 : n < 1000) : Lib.atoiAll (Lib.itoa n) = .ok n /\ (∀ b, b ∈ Lib.itoa n -> 48 <= b.toNat /\ b.toNat <= 57) /\ Lib.itoa n ≠ [] /\ (Lib.itoa n).length <= 3 := by
 obtain ⟨i, rfl⟩ : ∃ i : Nat, n = i := ⟨n.toNat, by omega⟩;have hi : i < 1000 := by omega
 rw [itoa_small hi];obtain ⟨a, b, c, d⟩ := atoi_dig3 ⟨i, hi⟩;exact ⟨a, fun x hx => by simpa using List.all_eq_true.1 b x hx, c, d⟩
theorem numOf_itoa {n : Int} (h0 : 0 <= n) (h1 : n < 1000) : numOf (Lib.itoa n) = some n := by
 unfold numOf;rw [(itoa_facts h0 h1).1];simp
def words : List (List UInt8) := [[], [111, 112, 101, 110], [99, 108, 111, 115, 101], [102, 105, 110, 105, 115, 104], [114, 101, 115, 101, 116], [97, 112, 112, 101, 110, 100], [119, 114, 105, 116, 101], [114, 101, 97, 100], [114, 101, 103, 105, 115, 116, 101, 114], [114, 101, 115, 101, 114, 118, 101], [114, 101, 108, 101, 97, 115, 101], [112, 114, 101, 101, 109, 112, 116], [99, 108, 101, 97, 114]]
def wordOf (k : Int) : List UInt8 := words.getD k.toNat []
def idxOf (w : List UInt8) : List (List UInt8) -> Int
 | [] => -1
 | x :: xs => if x = w then 0 else if idxOf w xs = -1 then -1 else idxOf w xs + 1
def heads (c : Cmd) : List Int := (if uZ c.kind = true then [c.z] else []) ++ (if uA c.kind = true then [c.pos] else []) ++ (if uN c.kind = true then [c.n] else [])
def withNums (s : List UInt8) : List Int -> List UInt8
 | [] => s
 | n :: ns => withNums (s ++ 32 :: Lib.itoa n) ns
def cmdText (c : Cmd) : List UInt8 := withNums (wordOf c.kind) (heads c ++ c.d)
def cmdPrint (c : Cmd) : List UInt8 × Int := if checkCmd c ≠ 0 then ([], checkCmd c) else (cmdText c, 0)
def takeIf (b : Bool) (ns : List Int) : Option (Int × List Int) := match b, ns with
 | true, [] => none
 | true, x :: xs => some (x, xs)
 | false, ns => some (0, ns)
def cmdOf (k : Int) (ns : List Int) : Option Cmd := (takeIf (uZ k) ns).bind fun a => (takeIf (uA k) a.2).bind fun b => (takeIf (uN k) b.2).bind fun c =>
 if uD k = decide (0 < c.2.length) then some ⟨k, a.1, c.1, b.1, c.2⟩ else none
def numsOf : List (List UInt8) -> Option (List Int)
 | [] => some []
 | l :: ls => match numOf l with
  | none => none
  | some n => (numsOf ls).map (n :: ·)
def cmdWords : List (List UInt8) -> Cmd × Int
 | [] => (Cmd.zero, 1)
 | w :: ts => if idxOf w words < 1 then (Cmd.zero, 1) else match numsOf ts with
  | none => (Cmd.zero, 1)
  | some ns => match cmdOf (idxOf w words) ns with
   | none => (Cmd.zero, 1)
   | some c => if checkCmd c ≠ 0 then (Cmd.zero, checkCmd c) else (c, 0)
def cmdRead (l : List UInt8) : Cmd × Int := cmdWords (pieces 32 l)
def cmdParse (l : List UInt8) : Cmd × Int := if 60000 < l.length then (Cmd.zero, 2) else cmdRead l
theorem idxOf_range (w : List UInt8) : ∀ xs : List (List UInt8), -1 <= idxOf w xs /\ idxOf w xs < xs.length
 | [] => by simp [idxOf]
 | x :: xs => by
  have ih := idxOf_range w xs;unfold idxOf;split
  ·simp
  ·split
   ·simp; omega
   ·simp; omega
theorem idxOf_at {w : List UInt8} : ∀ {xs : List (List UInt8)} {k : Nat}, idxOf w xs = k -> xs[k]? = some w
 | [], k, h => by simp [idxOf] at h
 | x :: xs, k, h => by
  unfold idxOf at h;split at h
  ·rename_i hx;have : k = 0 := by omega
   subst this;simp [hx]
  ·have ih := idxOf_range w xs;split at h
   ·omega
   ·obtain ⟨m, rfl⟩ : ∃ m, k = m + 1 := ⟨k - 1, by omega⟩;simp only [List.getElem?_cons_succ];exact idxOf_at (by omega)
theorem idxOf_first {w : List UInt8} : ∀ {xs : List (List UInt8)} {k : Nat}, xs[k]? = some w -> (∀ j, j < k -> xs[j]? ≠ some w) -> idxOf w xs = k
 | [], k, h, _ => by simp at h
 | x :: xs, k, h, g => by
  unfold idxOf;cases k with
  | zero => simp at h; rw [if_pos h]; rfl
  | succ k =>
   have hx : x ≠ w := fun e => g 0 (by omega) (by simp [e])
   have ih := idxOf_first (xs := xs) (k := k) (by simpa using h) (fun j hj => by simpa using g (j + 1) (by omega));rw [if_neg hx, if_neg (by omega), ih];simp
theorem numsOf_app : ∀ (a b : List (List UInt8)), numsOf (a ++ b) = match numsOf a with | none => none | some x => (numsOf b).map (x ++ ·)
 | [], b => by simp [numsOf]
 | l :: a, b => by
  rw [List.cons_append, numsOf, numsOf, numsOf_app a b];cases numOf l with
  | none => rfl
  | some n =>
   cases numsOf a with
   | none => rfl
   | some x => cases numsOf b <;> simp
theorem numsOf_len : ∀ {ls : List (List UInt8)} {ns : List Int}, numsOf ls = some ns -> ns.length = ls.length
 | [], ns, h => by cases h; rfl
 | l :: ls, ns, h => by
  unfold numsOf at h;split at h
  ·cases h
  ·cases hr : numsOf ls with
   | none => rw [hr] at h; cases h
   | some x => rw [hr] at h; cases h; simp [numsOf_len hr]
theorem numsOf_bad : ∀ {ls : List (List UInt8)} {k : Nat} {x : List UInt8}, ls[k]? = some x -> numOf x = none -> numsOf ls = none
 | [], k, x, h, _ => by simp at h
 | l :: ls, 0, x, h, g => by
  simp at h;subst h;rw [numsOf, g]
 | l :: ls, k + 1, x, h, g => by
  rw [numsOf, numsOf_bad (by simpa using h) g];cases numOf l <;> rfl
theorem numsOf_take {ls : List (List UInt8)} {k : Nat} {x : List UInt8} {ns : List Int} {n : Int} (h : ls[k]? = some x) (g : numsOf (ls.take k) = some ns) (e : numOf x = some n) : numsOf (ls.take (k + 1)) = some (ns ++ [n]) := by
 have : ls.take (k + 1) = ls.take k ++ [x] := by
  obtain ⟨h1, h2⟩ := List.getElem?_eq_some_iff.1 h;rw [List.take_succ_eq_append_getElem h1, h2]
 rw [this, numsOf_app, g];simp [numsOf, e]
theorem withNums_joined (s : List UInt8) : ∀ ns : List Int, withNums s ns = joined 32 (s :: ns.map Lib.itoa)
 | [] => rfl
 | n :: ns => by
  rw [withNums, withNums_joined _ ns];cases ns with
  | nil => rfl
  | cons m ns => simp [joined]
theorem bad_iff {n : Int} : bad n = false ↔ 0 <= n /\ n <= 999 := by simp [bad]
theorem checkCmd_ok {c : Cmd} (h : checkCmd c = 0) : 1 <= c.kind /\ c.kind <= 12 /\ misused c = false /\ c.d.length <= 8 /\ (0 <= c.z /\ c.z <= 999) /\ (0 <= c.pos /\ c.pos <= 999) /\ (0 <= c.n /\ c.n <= 999) /\ ∀ x, x ∈ c.d -> 0 <= x /\ x <= 999 := by
 unfold checkCmd at h;split at h
 ·cases h
 ·split at h
  ·cases h
  ·split at h
   ·cases h
   ·split at h
    ·cases h
    ·rename_i h1 h2 h3 h4;simp only [List.any_cons, Bool.or_eq_true, not_or, Bool.not_eq_true] at h4;obtain ⟨a, b, e, d⟩ := h4;refine ⟨by omega, by omega, by simpa using h2, by omega, bad_iff.1 a, bad_iff.1 b, bad_iff.1 e, fun x hx => bad_iff.1 ?_⟩;have := List.any_eq_false.1 d x hx;simpa using this
theorem kinds12 {k : Int} (h1 : 1 <= k) (h2 : k <= 12) : k = 1 \/ k = 2 \/ k = 3 \/ k = 4 \/ k = 5 \/ k = 6 \/ k = 7 \/ k = 8 \/ k = 9 \/ k = 10 \/ k = 11 \/ k = 12 := by omega
theorem itoa_no_blank {n : Int} (h : 0 <= n /\ n <= 999) : (32 : UInt8) ∉ Lib.itoa n := by
 intro hm;have := (itoa_facts h.1 (by omega)).2.1 32 hm;exact absurd this.1 (by decide)
theorem numsOf_itoa : ∀ {ns : List Int}, (∀ n, n ∈ ns -> 0 <= n /\ n <= 999) -> numsOf (ns.map Lib.itoa) = some ns
 | [], _ => rfl
 | n :: ns, h => by
  have h1 := h n (by simp);rw [List.map_cons, numsOf, numOf_itoa h1.1 (by omega), numsOf_itoa (fun m hm => h m (by simp [hm]))];rfl
theorem numsOf_texts : ∀ {ls : List (List UInt8)} {ns : List Int}, numsOf ls = some ns -> ls = ns.map Lib.itoa
 | [], ns, h => by cases h; rfl
 | l :: ls, ns, h => by
  unfold numsOf at h;split at h
  ·cases h
  ·rename_i n hn;cases hr : numsOf ls with
   | none => rw [hr] at h; cases h
   | some x =>
    rw [hr] at h;cases h;rw [List.map_cons, <- numsOf_texts hr, <- (numOf_some hn).1]
theorem idx_word : ∀ K : Fin 13, 1 <= K.val -> idxOf (wordOf (K.val : Int)) words = K.val /\ (wordOf (K.val : Int)).length <= 8 /\ (32 : UInt8) ∉ wordOf (K.val : Int) := by decide
theorem idx_words {k : Int} (h1 : 1 <= k) (h2 : k <= 12) : idxOf (wordOf k) words = k /\ (wordOf k).length <= 8 /\ (32 : UInt8) ∉ wordOf k := by
 obtain ⟨K, rfl⟩ : ∃ K : Nat, k = K := ⟨k.toNat, by omega⟩;exact idx_word ⟨K, by omega⟩ (by simp; omega)
theorem word_idx : ∀ K : Fin 13, words[K.val]? = some (wordOf (K.val : Int)) := by decide
theorem heads_in {c : Cmd} (hz : 0 <= c.z /\ c.z <= 999) (hp : 0 <= c.pos /\ c.pos <= 999) (hn : 0 <= c.n /\ c.n <= 999) : ∀ n, n ∈ heads c -> 0 <= n /\ n <= 999 := by
 intro n h;unfold heads at h;simp only [List.mem_append] at h;rcases h with (h | h) | h <;> (split at h) <;> simp at h <;> subst h <;> assumption
theorem heads_len (c : Cmd) : (heads c).length <= 3 := by
 unfold heads;simp only [List.length_append];split <;> split <;> split <;> simp
theorem cmdOf_heads {c : Cmd} (h : misused c = false) : cmdOf c.kind (heads c ++ c.d) = some c := by
 obtain ⟨k, z, n, p, d⟩ := c;unfold misused at h;unfold cmdOf heads;simp only at h ⊢;generalize uZ k = b1 at *;generalize uA k = b2 at *;generalize uN k = b3 at *;generalize uD k = b4 at *;simp only [Bool.or_eq_false_iff, Bool.and_eq_false_iff, Bool.not_eq_false', decide_eq_true_eq] at h;obtain ⟨⟨⟨h1, h2⟩, h3⟩, h4⟩ := h;have h4' : b4 = decide (0 < d.length) := by simpa using h4
 subst h4';cases b1 <;> cases b2 <;> cases b3 <;> simp_all [takeIf]
theorem heads_cmdOf {k : Int} {ns : List Int} {c : Cmd} (h : cmdOf k ns = some c) : c.kind = k /\ heads c ++ c.d = ns := by
 unfold cmdOf at h;unfold heads;cases h1 : takeIf (uZ k) ns with
 | none => rw [h1] at h; cases h
 | some a =>
  rw [h1] at h;simp only [Option.bind_some] at h;cases h2 : takeIf (uA k) a.2 with
  | none => rw [h2] at h; cases h
  | some b =>
   rw [h2] at h;simp only [Option.bind_some] at h;cases h3 : takeIf (uN k) b.2 with
   | none => rw [h3] at h; cases h
   | some e =>
    rw [h3] at h;simp only [Option.bind_some] at h;split at h
    ·cases h;refine ⟨rfl, ?_⟩;simp only
     have t : ∀ {b : Bool} {l : List Int} {x : Int × List Int}, takeIf b l = some x -> (if b = true then [x.1] else []) ++ x.2 = l := by
      intro b l x hx;cases b with
      | false => cases hx; rfl
      | true =>
       cases l with
       | nil => cases hx
       | cons y l => cases hx; rfl
     rw [<- t h1, <- t h2, <- t h3];simp [List.append_assoc]
    ·cases h
theorem cmdText_pieces {c : Cmd} (h : checkCmd c = 0) : pieces 32 (cmdText c) = wordOf c.kind :: (heads c ++ c.d).map Lib.itoa := by
 obtain ⟨k1, k12, hm, hd, hz, hp, hn, hb⟩ := checkCmd_ok h;unfold cmdText;rw [withNums_joined];refine pieces_joined (by simp) fun x hx => ?_
 simp only [List.mem_cons, List.mem_map, List.mem_append] at hx;rcases hx with rfl | ⟨n, hn' | hn', rfl⟩
 ·exact (idx_words k1 k12).2.2
 ·exact itoa_no_blank (heads_in hz hp hn n hn')
 ·exact itoa_no_blank (hb n hn')
theorem withNums_len (b : Nat) : ∀ (ns : List Int) (s : List UInt8), (∀ n, n ∈ ns -> (Lib.itoa n).length <= b) -> (withNums s ns).length <= s.length + ns.length * (b + 1)
 | [], s, _ => by simp [withNums]
 | n :: ns, s, h => by
  rw [withNums];have h1 := withNums_len b ns (s ++ 32 :: Lib.itoa n) (fun m hm => h m (by simp [hm]));have h2 := h n (by simp);simp only [List.length_append, List.length_cons] at h1 ⊢;rw [Nat.add_mul];omega
theorem cmdText_len {c : Cmd} (h : checkCmd c = 0) : (cmdText c).length <= 52 := by
 obtain ⟨k1, k12, hm, hd, hz, hp, hn, hb⟩ := checkCmd_ok h
 have h1 := withNums_len 3 (heads c ++ c.d) (wordOf c.kind) (fun n hn' => by
  have : 0 <= n /\ n <= 999 := by
   rcases List.mem_append.1 hn' with g | g
   ·exact heads_in hz hp hn n g
   ·exact hb n g
  exact (itoa_facts this.1 (by omega)).2.2.2)
 have h2 := (idx_words k1 k12).2.1;have h3 := heads_len c;have h4 : (heads c ++ c.d).length * (3 + 1) <= 11 * 4 := Nat.mul_le_mul (by simp; omega) (by omega);unfold cmdText;omega
theorem parse_text {c : Cmd} (h : checkCmd c = 0) : cmdParse (cmdText c) = (c, 0) := by
 obtain ⟨k1, k12, hm, hd, hz, hp, hn, hb⟩ := checkCmd_ok h;have hl := cmdText_len h;have hi := (idx_words k1 k12).1;unfold cmdParse cmdRead
 rw [if_neg (by omega), cmdText_pieces h, cmdWords, hi, if_neg (by omega), numsOf_itoa (fun n hn' => by
  rcases List.mem_append.1 hn' with g | g
  ·exact heads_in hz hp hn n g
  ·exact hb n g)]
 simp only [cmdOf_heads hm, h];simp
theorem text_parse {l : List UInt8} {c : Cmd} (h : cmdParse l = (c, 0)) : checkCmd c = 0 /\ cmdText c = l := by
 unfold cmdParse at h;split at h
 ·cases h
 ·unfold cmdRead at h;have hj := joined_pieces 32 l;cases hp : pieces 32 l with
  | nil => exact absurd hp (pieces_ne _ _)
  | cons w ts =>
   rw [hp] at h hj;rw [cmdWords] at h;split at h
   ·cases h
   ·rename_i hk;split at h
    ·cases h
    ·rename_i ns hns;split at h
     ·cases h
     ·rename_i c' hc;split at h
      ·rename_i hne; simp only [Prod.mk.injEq] at h; exact absurd h.2 hne
      ·rename_i hz;simp only [Prod.mk.injEq, and_true] at h;subst h;have hz' : checkCmd c' = 0 := by simpa using hz
       refine ⟨hz', ?_⟩;obtain ⟨e1, e2⟩ := heads_cmdOf hc;have hrange := idxOf_range w words;have h13 : (words.length : Int) = 13 := rfl;obtain ⟨K, hK⟩ : ∃ K : Nat, idxOf w words = K := ⟨(idxOf w words).toNat, by omega⟩;have hw := idxOf_at hK;have hw2 := word_idx ⟨K, by omega⟩;simp only at hw2;rw [hw] at hw2;unfold cmdText;rw [withNums_joined, e1, e2, hK, <- numsOf_texts hns, <- Option.some.inj hw2];exact hj
def numP (l : List UInt8) : Int × Bool := match Lib.atoiAll l with
 | .ok v => (v, decide (Lib.itoa v = l))
 | .range => (Lib.atoiSat l, false)
 | _ => (0, false)
theorem numP_true {l : List UInt8} {v : Int} (h : numP l = (v, true)) : l = Lib.itoa v := by
 unfold numP at h;split at h
 ·simp only [Prod.mk.injEq, decide_eq_true_eq] at h;obtain ⟨rfl, h⟩ := h;exact h.symm
 ·cases h
 ·cases h
theorem numP_itoa {n : Int} (h0 : 0 <= n) (h1 : n < 1000) : numP (Lib.itoa n) = (n, true) := by
 unfold numP;rw [(itoa_facts h0 h1).1];simp
theorem cut_true {l sep : List UInt8} {x y : List UInt8} (h : Lib.cut l sep = (x, y, true)) : l = x ++ sep ++ y := by
 unfold Lib.cut at h;split at h
 ·rename_i h0;simp only [Prod.mk.injEq, and_true] at h;obtain ⟨rfl, rfl⟩ := h;rcases Lib.index_spec l sep with ⟨h1, _⟩ | ⟨i, h1, h2, h3, _⟩
  ·omega
  ·rw [h1];unfold Lib.occAt at h3;obtain ⟨t, ht⟩ := List.isPrefixOf_iff_prefix.1 h3;simp only [Int.toNat_natCast];have e : l.drop (i + sep.length) = t := by rw [<- List.drop_drop, <- ht]; simp
   rw [e, List.append_assoc, ht, List.take_append_drop]
 ·cases h
theorem cut_len (l sep : List UInt8) : (Lib.cut l sep).1.length <= l.length /\ (Lib.cut l sep).2.1.length <= l.length := by
 unfold Lib.cut;split
 ·simp only [List.length_take, List.length_drop]; omega
 ·simp
theorem cut_two {a b : UInt8} {x : List UInt8} (y : List UInt8) (h : a ∉ x) : Lib.cut (x ++ a :: b :: y) [a, b] = (x, y, true) := by
 have hi : Lib.index (x ++ a :: b :: y) [a, b] = x.length := by
  refine Lib.index_first (i := x.length) (by simp) (by simp [Lib.occAt]) fun j hj => ?_
  unfold Lib.occAt
  have e : (x ++ a :: b :: y).drop j = x[j] :: (x ++ a :: b :: y).drop (j + 1) := by
   rw [List.drop_eq_getElem_cons (by simp; omega)];simp [List.getElem_append_left hj]
  rw [e];have hne : a ≠ x[j] := fun e => h (e ▸ List.getElem_mem hj)
  simp [List.isPrefixOf, hne]
 unfold Lib.cut;rw [hi, if_pos (by omega)];simp
def recText (r : Rec) : List UInt8 := Lib.itoa r.who ++ 32 :: (Lib.itoa r.seq ++ 58 :: 32 :: cmdText r.c)
def recPrint (r : Rec) : List UInt8 × Int := if checkRec r ≠ 0 then ([], checkRec r) else (recText r, 0)
def recOf (a b : Int) (y : List UInt8) : Rec × Int :=
 if (cmdParse y).2 ≠ 0 then (Rec.zero, (cmdParse y).2)
 else if checkRec ⟨a, b, (cmdParse y).1⟩ ≠ 0 then (Rec.zero, checkRec ⟨a, b, (cmdParse y).1⟩)
 else (⟨a, b, (cmdParse y).1⟩, 0)
def recParse (l : List UInt8) : Rec × Int :=
 if 60000 < l.length then (Rec.zero, 2)
 else if ((Lib.cut l [58, 32]).2.2 && (Lib.cut (Lib.cut l [58, 32]).1 [32]).2.2 && (numP (Lib.cut (Lib.cut l [58, 32]).1 [32]).1).2 && (numP (Lib.cut (Lib.cut l [58, 32]).1 [32]).2.1).2) = false then (Rec.zero, 1)
 else recOf (numP (Lib.cut (Lib.cut l [58, 32]).1 [32]).1).1 (numP (Lib.cut (Lib.cut l [58, 32]).1 [32]).2.1).1 (Lib.cut l [58, 32]).2.1
theorem checkRec_ok {r : Rec} (h : checkRec r = 0) : (0 <= r.who /\ r.who < 3) /\ (1 <= r.seq /\ r.seq <= 40) /\ checkCmd r.c = 0 := by
 unfold checkRec at h;split at h
 ·cases h
 ·exact ⟨by omega, by omega, h⟩
theorem not_digit {b : UInt8} {n : Int} (h0 : 0 <= n) (h1 : n < 1000) (hb : b.toNat < 48 \/ 57 < b.toNat) : b ∉ Lib.itoa n := by
 intro hm;have := (itoa_facts h0 h1).2.1 b hm;omega
theorem parse_rec {r : Rec} (h : checkRec r = 0) : recParse (recText r) = (r, 0) := by
 obtain ⟨hw, hs, hc⟩ := checkRec_ok h;have l1 := (itoa_facts (n := r.who) hw.1 (by omega)).2.2.2;have l2 := (itoa_facts (n := r.seq) (by omega) (by omega)).2.2.2;have l3 := cmdText_len hc;have e : recText r = (Lib.itoa r.who ++ 32 :: Lib.itoa r.seq) ++ 58 :: 32 :: cmdText r.c := by simp [recText]
 have k1 : Lib.cut (recText r) [58, 32] = (Lib.itoa r.who ++ 32 :: Lib.itoa r.seq, cmdText r.c, true) := by
  rw [e];refine cut_two _ fun hm => ?_
  rcases List.mem_append.1 hm with g | g
  ·exact not_digit hw.1 (by omega) (.inr (by decide)) g
  ·rcases List.mem_cons.1 g with g | g
   ·exact absurd g (by decide)
   ·exact not_digit (by omega) (by omega) (.inr (by decide)) g
 have k2 : Lib.cut (Lib.itoa r.who ++ 32 :: Lib.itoa r.seq) [32] = (Lib.itoa r.who, Lib.itoa r.seq, true) := by
  rw [cut_one, cut1_app _ (not_digit hw.1 (by omega) (.inl (by decide)))]
 unfold recParse;rw [if_neg (by simp [recText]; omega), k1];simp only [k2, numP_itoa hw.1 (by omega : r.who < 1000), numP_itoa (by omega : 0 <= r.seq) (by omega), recOf, parse_text hc];obtain ⟨w, s, c⟩ := r;simp [h]
theorem rec_parse {l : List UInt8} {r : Rec} (h : recParse l = (r, 0)) : checkRec r = 0 /\ recText r = l := by
 unfold recParse at h;split at h
 ·cases h
 ·obtain ⟨⟨x, y, b⟩, h1⟩ : ∃ p, Lib.cut l [58, 32] = p := ⟨_, rfl⟩;rw [h1] at h;simp only at h;obtain ⟨⟨u, v, d⟩, h2⟩ : ∃ p, Lib.cut x [32] = p := ⟨_, rfl⟩;rw [h2] at h;simp only at h;obtain ⟨⟨m, s⟩, h3⟩ : ∃ p, numP u = p := ⟨_, rfl⟩;obtain ⟨⟨n, t⟩, h4⟩ : ∃ p, numP v = p := ⟨_, rfl⟩;rw [h3, h4] at h;simp only at h;split at h
  ·cases h
  ·rename_i hb;simp only [Bool.not_eq_false, Bool.and_eq_true] at hb;obtain ⟨⟨⟨rfl, rfl⟩, rfl⟩, rfl⟩ := hb;unfold recOf at h;split at h
   ·rename_i hne; simp only [Prod.mk.injEq] at h; exact absurd h.2 hne
   ·rename_i hp;split at h
    ·rename_i hne; simp only [Prod.mk.injEq] at h; exact absurd h.2 hne
    ·rename_i hr;simp only [Prod.mk.injEq, and_true] at h;subst h;obtain ⟨g1, g2⟩ := text_parse (l := y) (c := (cmdParse y).1) (by rw [<- Decidable.not_not.1 hp]);refine ⟨Decidable.not_not.1 hr, ?_⟩;unfold recText;simp only;rw [g2, <- numP_true h3, <- numP_true h4, cut_true h1, cut_true h2];simp
theorem recText_len {r : Rec} (h : checkRec r = 0) : (recText r).length <= 61 := by
 obtain ⟨hw, hs, hc⟩ := checkRec_ok h;have l1 := (itoa_facts (n := r.who) hw.1 (by omega)).2.2.2;have l2 := (itoa_facts (n := r.seq) (by omega) (by omega)).2.2.2;have l3 := cmdText_len hc;simp [recText];omega
structure Disk where
 safe : List UInt8
 wait : List UInt8
deriving DecidableEq
def Disk.zero : Disk := ⟨[], []⟩
def linesF : Nat -> List UInt8 -> Int -> List Rec × Nat × Int
 | 0, _, _ => ([], 0, 0)
 | f + 1, s, m => if s = [] then ([], 0, 0) else match cut1 10 s with
  | none => ([], s.length, 9)
  | some (x, y) => if (recParse x).2 ≠ 0 then ([], s.length, (recParse x).2) else if m = 0 then ([], s.length, 2)
   else ((recParse x).1 :: (linesF f y (m - 1)).1, (linesF f y (m - 1)).2)
theorem cut1_len {c : UInt8} {l x y : List UInt8} (h : cut1 c l = some (x, y)) : l.length = x.length + y.length + 1 := by
 rw [(cut1_some h).1]; simp; omega
theorem linesF_more : ∀ (f g : Nat) (s : List UInt8) (m : Int), s.length <= f -> s.length <= g -> linesF f s m = linesF g s m
 | 0, 0, _, _, _, _ => rfl
 | 0, g + 1, s, m, h, _ => by
  have : s = [] := List.eq_nil_of_length_eq_zero (by omega);subst this; rfl
 | f + 1, 0, s, m, _, h => by
  have : s = [] := List.eq_nil_of_length_eq_zero (by omega);subst this; rfl
 | f + 1, g + 1, s, m, hf, hg => by
  unfold linesF;cases hc : cut1 10 s with
  | none => rfl
  | some p =>
   obtain ⟨x, y⟩ := p;have := cut1_len hc;simp only;rw [linesF_more f g y (m - 1) (by omega) (by omega)]
def lines (s : List UInt8) (m : Int) : List Rec × Nat × Int := linesF s.length s m
theorem lines_nil (m : Int) : lines [] m = ([], 0, 0) := rfl
theorem lines_none {s : List UInt8} (m : Int) (h : s ≠ []) (hc : cut1 10 s = none) : lines s m = ([], s.length, 9) := by
 unfold lines;cases s with
 | nil => exact absurd rfl h
 | cons b s => rw [List.length_cons, linesF, if_neg h, hc]; rfl
theorem lines_some {s x y : List UInt8} (m : Int) (hc : cut1 10 s = some (x, y)) : lines s m = if (recParse x).2 ≠ 0 then ([], s.length, (recParse x).2) else if m = 0 then ([], s.length, 2) else ((recParse x).1 :: (lines y (m - 1)).1, (lines y (m - 1)).2) := by
 have hl := cut1_len hc;unfold lines;obtain ⟨k, hk⟩ : ∃ k, s.length = k + 1 := ⟨x.length + y.length, hl⟩;have hne : s ≠ [] := fun e => by subst e; cases hk
 rw [hk, linesF, if_neg hne, hc];simp only;rw [linesF_more k y.length y (m - 1) (by omega) (by omega), hk]
def checkDisk (d : Disk) : Int := if 60000 < d.safe.length \/ 60000 < d.wait.length + d.safe.length then 2 else (lines d.safe 80).2.2
def putDisk (d : Disk) (r : Rec) : Disk × Int :=
 if checkDisk d ≠ 0 then (Disk.zero, checkDisk d)
 else if checkRec r ≠ 0 then (Disk.zero, checkRec r)
 else if 60000 < (recText r).length + 1 + d.safe.length + d.wait.length then (Disk.zero, 2)
 else (⟨d.safe, d.wait ++ recText r ++ [10]⟩, 0)
def syncDisk (d : Disk) : Disk × Int :=
 if checkDisk d ≠ 0 then (Disk.zero, checkDisk d)
 else if checkDisk ⟨d.safe ++ d.wait, []⟩ ≠ 0 then (Disk.zero, checkDisk ⟨d.safe ++ d.wait, []⟩)
 else (⟨d.safe ++ d.wait, []⟩, 0)
def kept (d : Disk) : List Rec × Nat × Int := lines d.wait (80 - ((lines d.safe 80).1.length : Int))
def recoverDisk (d : Disk) : Disk × List Rec × Int :=
 if checkDisk d ≠ 0 then (Disk.zero, [], checkDisk d)
 else (⟨d.safe ++ d.wait.take (d.wait.length - (kept d).2.1), []⟩, (lines d.safe 80).1 ++ (kept d).1, 0)
theorem linesF_left : ∀ (f : Nat) (s : List UInt8) (m : Int), (linesF f s m).2.1 <= s.length /\ (linesF f s m).1.length <= s.length
 | 0, s, m => by simp [linesF]
 | f + 1, s, m => by
  unfold linesF;split
  ·simp
  ·split
   ·simp
   ·rename_i x y hc;have h1 := cut1_len hc;have h2 := linesF_left f y (m - 1);split
    ·simp
    ·split
     ·simp
     ·simp only [List.length_cons]; omega
theorem lines_left (s : List UInt8) (m : Int) : (lines s m).2.1 <= s.length /\ (lines s m).1.length <= s.length := linesF_left _ _ _
theorem linesF_room : ∀ (f : Nat) (s : List UInt8) (m : Int), 0 <= m -> ((linesF f s m).1.length : Int) <= m
 | 0, s, m, h => by simp [linesF]; omega
 | f + 1, s, m, h => by
  unfold linesF;split
  ·simp; omega
  ·split
   ·simp; omega
   ·split
    ·simp; omega
    ·split
     ·simp; omega
     ·have := linesF_room f (by assumption) (m - 1) (by omega);simp only [List.length_cons]; omega
theorem lines_room (s : List UInt8) {m : Int} (h : 0 <= m) : ((lines s m).1.length : Int) <= m := linesF_room _ _ _ h
def textOf : List Rec -> List UInt8
 | [] => []
 | r :: l => recText r ++ 10 :: textOf l
theorem textOf_app : ∀ (a b : List Rec), textOf (a ++ b) = textOf a ++ textOf b
 | [], b => rfl
 | r :: a, b => by simp only [List.cons_append, textOf, textOf_app a b, List.append_assoc]
theorem withNums_no {c : UInt8} : ∀ (ns : List Int) (s : List UInt8), c ∉ s -> c ≠ 32 -> (∀ n, n ∈ ns -> c ∉ Lib.itoa n) -> c ∉ withNums s ns
 | [], s, h, _, _ => h
 | n :: ns, s, h, h2, g => by
  rw [withNums];refine withNums_no ns _ ?_ h2 (fun m hm => g m (by simp [hm]));simp only [List.mem_append, List.mem_cons, not_or];exact ⟨h, h2, g n (by simp)⟩
theorem word_no_line : ∀ K : Fin 13, (10 : UInt8) ∉ wordOf (K.val : Int) := by decide
theorem cmdText_no_line {c : Cmd} (h : checkCmd c = 0) : (10 : UInt8) ∉ cmdText c := by
 obtain ⟨k1, k12, hm, hd, hz, hp, hn, hb⟩ := checkCmd_ok h;unfold cmdText;refine withNums_no _ _ ?_ (by decide) fun n hn' => ?_
 ·obtain ⟨K, hK⟩ : ∃ K : Nat, c.kind = K := ⟨c.kind.toNat, by omega⟩;rw [hK];exact word_no_line ⟨K, by omega⟩
 ·have : 0 <= n /\ n <= 999 := by
   rcases List.mem_append.1 hn' with g | g
   ·exact heads_in hz hp hn n g
   ·exact hb n g
  exact not_digit this.1 (by omega) (.inl (by decide))
theorem recText_no_line {r : Rec} (h : checkRec r = 0) : (10 : UInt8) ∉ recText r := by
 obtain ⟨hw, hs, hc⟩ := checkRec_ok h;unfold recText;simp only [List.mem_append, List.mem_cons, not_or];exact ⟨not_digit hw.1 (by omega) (.inl (by decide)), by decide, not_digit (by omega) (by omega) (.inl (by decide)), by decide, by decide, cmdText_no_line hc⟩
theorem textOf_len : ∀ {l : List Rec}, (∀ r, r ∈ l -> checkRec r = 0) -> (textOf l).length <= 62 * l.length
 | [], _ => by simp [textOf]
 | r :: l, h => by
  have h1 := recText_len (h r (by simp));have h2 := textOf_len (l := l) (fun x hx => h x (by simp [hx]));simp only [textOf, List.length_append, List.length_cons];omega
theorem lines_text : ∀ {l : List Rec} (p : List UInt8) (m : Int), (∀ r, r ∈ l -> checkRec r = 0) -> (10 : UInt8) ∉ p -> (l.length : Int) <= m -> (lines (textOf l ++ p) m).1 = l /\ (lines (textOf l ++ p) m).2.1 = p.length /\ (p = [] -> (lines (textOf l ++ p) m).2.2 = 0)
 | [], p, m, _, hp, _ => by
  simp only [textOf, List.nil_append];by_cases h : p = []
  ·subst h; rw [lines_nil]; simp
  ·rw [lines_none m h (cut1_none.2 hp)]; simp [h]
 | r :: l, p, m, h, hp, hm => by
  have hr := h r (by simp);have e : textOf (r :: l) ++ p = recText r ++ 10 :: (textOf l ++ p) := by simp [textOf]
  have ih := lines_text (l := l) p (m - 1) (fun x hx => h x (by simp [hx])) hp (by simp at hm; omega);rw [e, lines_some m (cut1_app _ (recText_no_line hr)), parse_rec hr, if_neg (by simp), if_neg (by simp at hm; omega)];exact ⟨by rw [ih.1], ih.2.1, ih.2.2⟩
theorem lines_whole {l : List Rec} {m : Int} (h : ∀ r, r ∈ l -> checkRec r = 0) (hm : (l.length : Int) <= m) : lines (textOf l) m = (l, 0, 0) := by
 have := lines_text (l := l) [] m h (by simp) hm;rw [List.append_nil] at this;obtain ⟨h1, h2, h3⟩ := this;refine Prod.ext h1 (Prod.ext h2 (h3 rfl))
theorem check_text {l : List Rec} {w : List UInt8} (h : ∀ r, r ∈ l -> checkRec r = 0) (hl : l.length <= 80) (hw : w.length <= 5000) : checkDisk ⟨textOf l, w⟩ = 0 := by
 have h1 := textOf_len h;unfold checkDisk;rw [if_neg (by simp only; omega), lines_whole h (by omega)]
theorem put_text {l : List Rec} {w : List UInt8} {r : Rec} (h : ∀ r, r ∈ l -> checkRec r = 0) (hl : l.length <= 80) (hw : w.length <= 5000) (hr : checkRec r = 0) : putDisk ⟨textOf l, w⟩ r = (⟨textOf l, w ++ recText r ++ [10]⟩, 0) := by
 have h1 := textOf_len h;have h2 := recText_len hr;unfold putDisk;rw [if_neg (by simp [check_text h hl hw]), if_neg (by simp [hr]), if_neg (by simp only; omega)]
theorem sync_text {l m : List Rec} (h : ∀ r, r ∈ l -> checkRec r = 0) (g : ∀ r, r ∈ m -> checkRec r = 0) (hl : l.length + m.length <= 80) : syncDisk ⟨textOf l, textOf m⟩ = (⟨textOf (l ++ m), []⟩, 0) := by
 have h1 := textOf_len g;have ha : ∀ r, r ∈ l ++ m -> checkRec r = 0 := fun r hr => (List.mem_append.1 hr).elim (h r) (g r)
 unfold syncDisk;simp only [<- textOf_app];rw [if_neg (by simp [check_text h (by omega) (w := textOf m) (by omega)]), if_neg (by simp [check_text ha (by simpa using hl) (w := []) (by simp)])]
theorem recover_text {l : List Rec} (h : ∀ r, r ∈ l -> checkRec r = 0) (hl : l.length <= 80) : recoverDisk ⟨textOf l, []⟩ = (⟨textOf l, []⟩, l, 0) := by
 unfold recoverDisk kept;rw [if_neg (by simp [check_text h hl (w := []) (by simp)])];simp only [lines_whole (m := 80) h (by omega), lines_nil];simp
theorem step_text {l : List Rec} {r : Rec} (h : ∀ r, r ∈ l -> checkRec r = 0) (hr : checkRec r = 0) (hl : l.length < 80) :
  putDisk ⟨textOf l, []⟩ r = (⟨textOf l, textOf [r]⟩, 0) /\ syncDisk ⟨textOf l, textOf [r]⟩ = (⟨textOf (l ++ [r]), []⟩, 0) := by
 refine ⟨by rw [put_text h (by omega) (by simp) hr]; simp [textOf], sync_text h (by simpa using hr) (by simp; omega)⟩
theorem nextHall_rec {h : Hall} {r : Rec} (e : (nextHall h r).2.2 = 0) : checkRec r = 0 := by
 unfold nextHall at e;split at e
 ·rename_i h0; exact absurd e h0
 ·split at e
  ·rename_i h0; exact absurd e h0
  ·rename_i h0; simpa using h0
theorem replay_ok {l : List Rec} {w : Hall} (h : replay l = (w, 0)) : l.length <= 80 /\ replayFrom Hall.new l = (w, 0) := by
 unfold replay at h;split at h
 ·cases h
 ·exact ⟨by omega, h⟩
structure Mail where
 back : Bool
 who : Int
 seq : Int
 c : Cmd
 a : Answer
deriving DecidableEq, Inhabited
structure World where
 h : Hall
 d : Disk
 up : Bool
 hand : List Hand
 mail : List Mail
deriving DecidableEq
def World.zero : World := ⟨Hall.zero, Disk.zero, false, [], []⟩
def World.new : World := ⟨Hall.new, Disk.zero, true, [Hand.zero, Hand.zero, Hand.zero], []⟩
structure Hap where
 kind : Int
 who : Int
 n : Int
 c : Cmd
deriving DecidableEq, Inhabited
def checkMail (m : Mail) : Int :=
 if m.who < 0 \/ 3 <= m.who \/ m.seq < 1 \/ 40 < m.seq then 3
 else if m.back = true then (if m.c ≠ Cmd.zero then 4 else checkAnswer m.a)
 else if m.a ≠ Answer.zero then 4
 else checkRec ⟨m.who, m.seq, m.c⟩
def heard (w : World) : List Rec := if w.up = true then (recoverDisk w.d).2.1 else []
def checkWorld (w : World) : Int :=
 if w.hand.length ≠ 3 then 4
 else if 30 < w.mail.length then 2
 else if firstBad checkMail w.mail ≠ 0 then firstBad checkMail w.mail
 else if (recoverDisk w.d).2.2 ≠ 0 then (recoverDisk w.d).2.2
 else if w.up = true /\ 0 < w.d.wait.length then 4
 else if (replay (heard w)).2 ≠ 0 then (replay (heard w)).2
 else if (replay (heard w)).1 ≠ w.h then 4
 else firstBad checkHand w.hand
def post (w : World) (m : Mail) : World := if w.mail.length < 30 then { w with mail := w.mail ++ [m] } else w
def asked (w : World) (m : Mail) : World :=
 if (nextHall w.h ⟨m.who, m.seq, m.c⟩).2.2 ≠ 0 then w
 else if (w.h.last.getD m.who.toNat Last.zero).seq < m.seq then
  if (putDisk w.d ⟨m.who, m.seq, m.c⟩).2 ≠ 0 then w
  else if (syncDisk (putDisk w.d ⟨m.who, m.seq, m.c⟩).1).2 ≠ 0 then w
  else post { w with d := (syncDisk (putDisk w.d ⟨m.who, m.seq, m.c⟩).1).1, h := (nextHall w.h ⟨m.who, m.seq, m.c⟩).1 } ⟨true, m.who, m.seq, Cmd.zero, (nextHall w.h ⟨m.who, m.seq, m.c⟩).2.1⟩
 else post w ⟨true, m.who, m.seq, Cmd.zero, (nextHall w.h ⟨m.who, m.seq, m.c⟩).2.1⟩
def hearMail (w : World) (x : Hap) : World × Int :=
 if x.n < 0 \/ (w.mail.length : Int) <= x.n then (w, 5)
 else
  let m := w.mail.getD x.n.toNat default
  let v : World := if x.kind ≠ 4 then { w with mail := w.mail.eraseIdx x.n.toNat } else w
  if x.kind = 5 then (v, 0)
  else if m.back = true then
   (if (hear (v.hand.getD m.who.toNat Hand.zero) m.seq m.a).2 ≠ 0 then (v, (hear (v.hand.getD m.who.toNat Hand.zero) m.seq m.a).2)
    else ({ v with hand := v.hand.set m.who.toNat (hear (v.hand.getD m.who.toNat Hand.zero) m.seq m.a).1 }, 0))
  else if v.up = false then (v, 6)
  else (asked v m, 0)
def power (w : World) (x : Hap) : World × Int :=
 if w.up = decide (x.kind = 7) then (w, 6)
 else if x.kind = 6 then ({ w with h := Hall.new, up := false }, 0)
 else if (recoverDisk w.d).2.2 ≠ 0 then (w, (recoverDisk w.d).2.2)
 else if (replay (recoverDisk w.d).2.1).2 ≠ 0 then (w, (replay (recoverDisk w.d).2.1).2)
 else ({ w with h := (replay (recoverDisk w.d).2.1).1, d := (recoverDisk w.d).1, up := true }, 0)
def happen (w : World) (x : Hap) : World × Int :=
 if x.kind = 3 \/ x.kind = 4 \/ x.kind = 5 then hearMail w x
 else if x.kind = 6 \/ x.kind = 7 then power w x
 else if x.kind ≠ 1 /\ x.kind ≠ 2 then (w, 4)
 else if x.who < 0 \/ (w.hand.length : Int) <= x.who then (w, 5)
 else
  let h := w.hand.getD x.who.toNat Hand.zero
  if x.kind = 1 then
   (if (ask h x.c).2 ≠ 0 then (w, (ask h x.c).2)
    else (post { w with hand := w.hand.set x.who.toNat (ask h x.c).1 } ⟨false, x.who, (ask h x.c).1.seq, (ask h x.c).1.c, Answer.zero⟩, 0))
  else if h.waits = false then (w, 6)
  else (post w ⟨false, x.who, h.seq, h.c, Answer.zero⟩, 0)
def doWorld (w : World) (x : Hap) : World × Int :=
 if checkWorld w ≠ 0 then (World.zero, checkWorld w)
 else if (happen w x).2 ≠ 0 then (World.zero, (happen w x).2)
 else ((happen w x).1, 0)
def script (w : World) : List Hap -> World × List Int
 | [] => (w, [])
 | x :: l => ((script (if (happen w x).2 = 0 then (happen w x).1 else w) l).1, (happen w x).2 :: (script (if (happen w x).2 = 0 then (happen w x).1 else w) l).2)
def runWorld (w : World) (l : List Hap) : World × List Int × Int :=
 if checkWorld w ≠ 0 then (World.zero, [], checkWorld w)
 else if 120 < l.length then (World.zero, [], 2)
 else ((script w l).1, (script w l).2, 0)
theorem linesF_whole : ∀ (f : Nat) (s : List UInt8) (m : Int), s.length <= f -> (linesF f s m).2.2 = 0 -> s = textOf (linesF f s m).1 /\ (linesF f s m).2.1 = 0 /\ ∀ r, r ∈ (linesF f s m).1 -> checkRec r = 0
 | 0, s, m, h, _ => by
  have : s = [] := List.eq_nil_of_length_eq_zero (by omega);subst this;exact ⟨rfl, rfl, fun r hr => by cases hr⟩
 | f + 1, s, m, h, e => by
  unfold linesF at e ⊢;by_cases hs : s = []
  ·rw [if_pos hs]; exact ⟨hs, rfl, fun r hr => by cases hr⟩
  ·rw [if_neg hs] at e ⊢;cases hc : cut1 10 s with
   | none => rw [hc] at e; cases e
   | some p =>
    obtain ⟨x, y⟩ := p;rw [hc] at e;have hl := cut1_len hc;simp only at e ⊢;by_cases h1 : (recParse x).2 ≠ 0
    ·rw [if_pos h1] at e; exact absurd e h1
    ·rw [if_neg h1] at e ⊢;by_cases h2 : m = 0
     ·rw [if_pos h2] at e; cases e
     ·rw [if_neg h2] at e ⊢;obtain ⟨q1, q2, q3⟩ := linesF_whole f y (m - 1) (by omega) e;obtain ⟨g1, g2⟩ := rec_parse (l := x) (r := (recParse x).1) (by rw [<- Decidable.not_not.1 h1]);refine ⟨?_, q2, fun r hr => ?_⟩
      ·rw [(cut1_some hc).1];simp only [textOf, g2, <- q1]
      ·rcases List.mem_cons.1 hr with rfl | hr
       ·exact g1
       ·exact q3 r hr
theorem disk_right {d : Disk} (h : checkDisk d = 0) : ∃ l : List Rec, d.safe = textOf l /\ (∀ r, r ∈ l -> checkRec r = 0) /\ l.length <= 80 /\ (lines d.safe 80).1 = l := by
 unfold checkDisk at h;split at h
 ·cases h
 ·obtain ⟨q1, q2, q3⟩ := linesF_whole d.safe.length d.safe 80 (Nat.le_refl _) h;have := lines_room d.safe (m := 80) (by omega);exact ⟨_, q1, q3, by unfold lines at this; omega, rfl⟩
theorem linesF_part : ∀ (f : Nat) (s : List UInt8) (m : Int), s.length <= f -> s.take (s.length - (linesF f s m).2.1) = textOf (linesF f s m).1 /\ (linesF f s m).2.1 <= s.length /\ ∀ r, r ∈ (linesF f s m).1 -> checkRec r = 0
 | 0, s, m, h => by
  have : s = [] := List.eq_nil_of_length_eq_zero (by omega);subst this;exact ⟨rfl, by simp [linesF], fun r hr => by cases hr⟩
 | f + 1, s, m, h => by
  unfold linesF;by_cases hs : s = []
  ·subst hs; exact ⟨rfl, by simp, fun r hr => by cases hr⟩
  ·rw [if_neg hs];cases hc : cut1 10 s with
   | none => exact ⟨by simp [textOf], by simp, fun r hr => by cases hr⟩
   | some p =>
    obtain ⟨x, y⟩ := p;have hl := cut1_len hc;simp only;by_cases h1 : (recParse x).2 ≠ 0
    ·rw [if_pos h1]; exact ⟨by simp [textOf], by simp, fun r hr => by cases hr⟩
    ·rw [if_neg h1];by_cases h2 : m = 0
     ·rw [if_pos h2]; exact ⟨by simp [textOf], by simp, fun r hr => by cases hr⟩
     ·rw [if_neg h2];obtain ⟨q1, q2, q3⟩ := linesF_part f y (m - 1) (by omega);obtain ⟨g1, g2⟩ := rec_parse (l := x) (r := (recParse x).1) (by rw [<- Decidable.not_not.1 h1]);simp only;refine ⟨?_, by omega, fun r hr => ?_⟩
      ·obtain ⟨i, hi⟩ : ∃ i, y.length - (linesF f y (m - 1)).2.1 = i := ⟨_, rfl⟩;have e : s.length - (linesF f y (m - 1)).2.1 = x.length + (i + 1) := by omega
       rw [e, (cut1_some hc).1, List.take_length_add_append, List.take_succ_cons, <- hi, q1];simp only [textOf, g2]
      ·rcases List.mem_cons.1 hr with rfl | hr
       ·exact g1
       ·exact q3 r hr
def hasN (k : Int) : List UInt8 := (if uZ k = true then [122] else []) ++ (if uA k = true then [97] else []) ++ (if uN k = true then [110] else [])
def hasS (k : Int) : List UInt8 := hasN k ++ (if uD k = true then [100] else [])
def numsAt (c : Cmd) (x : UInt8) : List Int := if x = 122 then [c.z] else if x = 97 then [c.pos] else if x = 110 then [c.n] else c.d
theorem nums_has {c : Cmd} (h : misused c = false) : (hasS c.kind).flatMap (numsAt c) = heads c ++ c.d := by
 obtain ⟨k, z, n, p, d⟩ := c;unfold misused at h;unfold hasS hasN heads;simp only at h ⊢;generalize uZ k = b1 at *;generalize uA k = b2 at *;generalize uN k = b3 at *;generalize uD k = b4 at *;simp only [Bool.or_eq_false_iff] at h;have h4 : b4 = decide (0 < d.length) := by have := h.2; simpa using this
 subst h4;clear h;cases d <;> cases b1 <;> cases b2 <;> cases b3 <;> simp [numsAt]
theorem text_has {c : Cmd} (h : checkCmd c = 0) : cmdText c = withNums (wordOf c.kind) ((hasS c.kind).flatMap (numsAt c)) := by
 rw [nums_has (checkCmd_ok h).2.2.1];rfl
def put1 (c : Cmd) (x : UInt8) (v : Int) : Cmd := if x = 122 then { c with z := v } else if x = 97 then { c with pos := v } else { c with n := v }
def setL : List UInt8 -> List Int -> Cmd -> Cmd
 | x :: xs, v :: vs, c => setL xs vs (put1 c x v)
 | _, _, c => c
def misfit (k : Int) (ns : List Int) : Bool := decide (ns.length < (hasN k).length) || (decide (ns.length = (hasN k).length) && uD k) || (decide ((hasN k).length < ns.length) && !uD k)
def readOf (k : Int) (ns : List Int) : Option Cmd := if misfit k ns = true then none else some (setL (hasN k) ns ⟨k, 0, 0, 0, ns.drop (hasN k).length⟩)
theorem readOf_eq {k : Int} (h1 : 1 <= k) (h2 : k <= 12) (ns : List Int) : readOf k ns = cmdOf k ns := by
 have hu : (uZ k = true /\ uA k = false /\ uN k = false /\ uD k = false) \/ (uZ k = true /\ uA k = false /\ uN k = false /\ uD k = true) \/ (uZ k = true /\ uA k = true /\ uN k = false /\ uD k = true) \/ (uZ k = true /\ uA k = true /\ uN k = true /\ uD k = false) \/ (uZ k = false /\ uA k = false /\ uN k = true /\ uD k = false) \/ (uZ k = false /\ uA k = false /\ uN k = false /\ uD k = false) := by
  rcases kinds12 h1 h2 with rfl | rfl | rfl | rfl | rfl | rfl | rfl | rfl | rfl | rfl | rfl | rfl <;> decide
 unfold readOf misfit cmdOf hasN;rcases hu with ⟨a, b, c, d⟩ | ⟨a, b, c, d⟩ | ⟨a, b, c, d⟩ | ⟨a, b, c, d⟩ | ⟨a, b, c, d⟩ | ⟨a, b, c, d⟩ <;> rw [a, b, c, d] <;> rcases ns with _ | ⟨x, _ | ⟨y, _ | ⟨u, _ | ⟨v, ns⟩⟩⟩⟩ <;> simp [takeIf, setL, put1]
def LeftP (c : UInt8) (ts : List (List UInt8)) (rest : List UInt8) (more : Bool) : Prop := (more = true /\ pieces c rest = ts) \/ (more = false /\ ts = [])
theorem left_cut {c : UInt8} {l u v w : List UInt8} {b : Bool} {ts : List (List UInt8)} (h : Lib.cut l [c] = (u, v, b)) (hp : pieces c l = w :: ts) : u = w /\ LeftP c ts v b := by
 rw [cut_one] at h;rw [pieces_cut] at hp;cases hc : cut1 c l with
 | none =>
  rw [hc] at hp h;simp only [List.cons.injEq, Prod.mk.injEq] at hp h;obtain ⟨rfl, rfl, rfl⟩ := h;exact ⟨hp.1, Or.inr ⟨rfl, hp.2.symm⟩⟩
 | some p =>
  obtain ⟨x, y⟩ := p;rw [hc] at hp h;simp only [List.cons.injEq, Prod.mk.injEq] at hp h;obtain ⟨rfl, rfl, rfl⟩ := h;exact ⟨hp.1, Or.inl ⟨rfl, hp.2⟩⟩
theorem indexByte_one (c : UInt8) : ∀ l : List UInt8, Lib.indexByte l c = match cut1 c l with | some (x, _) => (x.length : Int) | none => -1
 | [] => rfl
 | b :: l => by
  have ih := indexByte_one c l;unfold Lib.indexByte cut1;by_cases h : b = c
  ·simp [h]
  ·have hb : (b == c) = false := by simp [h]
   rw [ih, hb, if_neg h];cases cut1 c l with
   | none => rfl
   | some p =>
    obtain ⟨x, y⟩ := p;have h1 : ((x.length : Int) == -1) = false := by simp
    simp [h1]
theorem cut_at {l sep : List UInt8} (h : 0 < sep.length) : (Lib.index l sep = -1 /\ Lib.cut l sep = (l, [], false)) \/ ∃ K : Nat, Lib.index l sep = K /\ K + sep.length <= l.length /\ Lib.cut l sep = (l.take K, l.drop (K + sep.length), true) := by
 rcases Lib.index_spec l sep with ⟨h1, -⟩ | ⟨K, h1, h2, h3, -⟩
 ·exact Or.inl ⟨h1, by unfold Lib.cut; rw [h1]; rfl⟩
 ·refine Or.inr ⟨K, h1, ?_, by unfold Lib.cut; rw [h1, if_pos (by omega)]; simp⟩;unfold Lib.occAt at h3;obtain ⟨t, ht⟩ := List.isPrefixOf_iff_prefix.1 h3;have := congrArg List.length ht;simp at this;omega
theorem cmdParse_read {l : List UInt8} (h : l.length <= 60000) : cmdParse l = cmdRead l := by
 unfold cmdParse;rw [if_neg (by omega)]
def after (c : UInt8) : List UInt8 -> List (List UInt8)
 | [] => [[]]
 | b :: l => if b = c then [b] :: after c l else match after c l with
  | x :: xs => (b :: x) :: xs
  | [] => [[b]]
theorem after_none {c : UInt8} : ∀ {l : List UInt8}, c ∉ l -> after c l = [l]
 | [], _ => rfl
 | b :: l, h => by
  simp only [List.mem_cons, not_or] at h;unfold after;rw [if_neg (fun e => h.1 e.symm), after_none h.2]
theorem after_app {c : UInt8} : ∀ {x : List UInt8} (y : List UInt8), c ∉ x -> after c (x ++ c :: y) = (x ++ [c]) :: after c y
 | [], y, _ => by simp [after]
 | b :: x, y, h => by
  simp only [List.mem_cons, not_or] at h;show after c (b :: (x ++ c :: y)) = _;rw [after, if_neg (fun e => h.1 e.symm), after_app y h.2];rfl
theorem after_cut (c : UInt8) (l : List UInt8) : after c l = match cut1 c l with | some (x, y) => (x ++ [c]) :: after c y | none => [l] := by
 cases h : cut1 c l with
 | none => exact after_none (cut1_none.1 h)
 | some p =>
  obtain ⟨x, y⟩ := p;obtain ⟨h1, h2⟩ := cut1_some h;rw [h1, after_app y h2]
theorem splitK_after (c : UInt8) : ∀ (k : Nat) (l : List UInt8), l.count c <= k -> Lib.splitK [c] 1 k l = after c l
 | 0, l, h => by
  have : c ∉ l := List.count_eq_zero.1 (by omega);rw [after_none this];rfl
 | k + 1, l, h => by
  unfold Lib.splitK;rw [after_cut, index_one];cases hc : cut1 c l with
  | none => rfl
  | some p =>
   obtain ⟨x, y⟩ := p;obtain ⟨h1, h2⟩ := cut1_some hc;simp only;have hne : ((x.length : Int) == -1) = false := by simp
   rw [hne];have hcy : y.count c <= k := by rw [h1] at h; simp at h; omega
   have e1 : (x.length : Int).toNat = x.length := by omega
   have e2 : l.take (x.length + 1) = x ++ [c] := by
    have e : l = (x ++ [c]) ++ y := by rw [h1]; simp
    rw [e];exact List.take_left' (by simp)
   have e3 : l.drop (x.length + [c].length) = y := by rw [h1]; simp
   rw [e1, e2, e3, splitK_after c k y hcy];rfl
theorem split_after (c : UInt8) (l : List UInt8) : Lib.splitK [c] 1 (Lib.count l [c]) l = after c l :=
 splitK_after c _ l (by unfold Lib.count; rw [countFrom_one c _ l (by omega)]; exact Nat.le_refl _)
theorem after_len (c : UInt8) : ∀ l : List UInt8, (after c l).length <= l.length + 1
 | [] => by simp [after]
 | b :: l => by
  have ih := after_len c l;rw [after];split
  ·simp; omega
  ·split
   ·rename_i x xs hp; rw [hp] at ih; simp at ih ⊢; omega
   ·simp
theorem after_first {c : UInt8} {l t : List UInt8} {ts : List (List UInt8)} (h : after c l = t :: ts) : (cut1 c l = none /\ t = l /\ ts = []) \/ ∃ x y, cut1 c l = some (x, y) /\ t = x ++ [c] /\ after c y = ts := by
 rw [after_cut] at h;cases hc : cut1 c l with
 | none =>
  rw [hc] at h;simp only [List.cons.injEq] at h;exact Or.inl ⟨rfl, h.1.symm, h.2.symm⟩
 | some p =>
  obtain ⟨x, y⟩ := p;rw [hc] at h;simp only [List.cons.injEq] at h;exact Or.inr ⟨x, y, rfl, h.1.symm, h.2⟩
end Go.Proofs.YtadmfokicjjglaaGreatDoor.S
