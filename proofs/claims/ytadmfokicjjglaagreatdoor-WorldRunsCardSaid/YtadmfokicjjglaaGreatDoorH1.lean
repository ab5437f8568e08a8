/- H1: Ha: commands and answers, by the engine. Hb: commands and answers: copies, likeness. Hc: hands. -/
import Derived.Test.YtadmfokicjjglaaGreatDoorGr
import Derived.Test.YtadmfokicjjglaaGreatDoorSp
import Derived.Test.YtadmfokicjjglaaGreatDoorX3
namespace Go.Proofs.YtadmfokicjjglaaGreatDoor.E
open Go.RowKit Go.Proofs
set_option maxRecDepth 100000
set_option maxHeartbeats 1000000
set_option linter.unusedSimpArgs false
abbrev cmdC (fr : Bool) (c : S.Cmd) : List AV := [.at (.int .i64 c.kind), .at (.int .i64 c.z), .at (.int .i64 c.n), .at (.int .i64 c.pos), .lst fr 1 (I c.d)]
abbrev ansC (fr : Bool) (a : S.Answer) : List AV := [.at (.int .i64 a.e), .at (.int .i64 a.pos), .lst fr 1 (I a.d)]
theorem ends_b4 {a b c d a' b' c' d' : Bool} {h : Heap} {n : Nat} (e : a = a') (f : b = b') (g : c = c') (i : d = d') : Ends [] (.agg [Bool' a', Bool' b', Bool' c', Bool' d']) [] h n (.agg [Bool' a, Bool' b, Bool' c, Bool' d]) := by
 subst e f g i;exact ⟨⟨_, rfl, Sub.refl _⟩, rfl⟩
theorem cmd_uses (k : Int) : C Tryz.prog 125 [Int' k] (.agg [Bool' (S.uZ k), Bool' (S.uA k), Bool' (S.uN k), Bool' (S.uD k)]) [] := by
 refine CI Tryz.func125 ?_;refine rN ?_;repeat' (refine brA_split (fun g => ?_) (fun g => ?_) <;> simp -dsimp -implicitDefEqProofs [-getElem?_pos, -List.map_append, -List.map_set, List.getElem?_cons_zero, List.getElem?_cons_succ, g])
 all_goals
  apply ends_b4 <;> simp at * <;> simp [S.uZ, S.uA, S.uN, S.uD] <;> grind
theorem desk_CheckAnswer (a : S.Answer) : C Tryz.prog 88 [.agg (ansC false a)] (Int' (S.checkAnswer a)) [] := by
 obtain ⟨e, p, xs⟩ := a;obtain ⟨r, hr⟩ : ∃ r, S.checkAnswer ⟨e, p, xs⟩ = r := ⟨_, rfl⟩;rw [hr];unfold S.checkAnswer at hr;replace hr := hid hr;refine CI Tryz.func88 ?_;refine rN ?_;refine brA_split (fun h1 => ?_) (fun h1 => ?_)
 ·refine rN ?_;exact ends_int (by simp at h1; rw [<- hr.out, if_pos (by simp; omega)])
 simp at h1;refine rN ?_;refine brA_split (fun h2 => ?_) (fun h2 => ?_)
 ·refine rN ?_;exact ends_int (by simp at h2; rw [<- hr.out, if_neg (by simp; omega), if_pos (by simp; omega)])
 simp at h2;have h2 : xs.length <= 8 := by omega
 refine rN ?_;refine loop_count 30 xs.length (fun k h _ _ => h = _ /\ Hid (∀ j, j < k -> S.bad (xs.getD j 0) = false)) _ rfl (by rfl) ⟨rfl, by intro j hj; omega⟩ ?_ ?_
 ·rintro k t h m hk hci hs ⟨rfl, hb⟩;have hw : IntKind.i64.wrap ((k : Int) + 1) = (k : Int) + 1 := wrap_ok (by omega);obtain ⟨x, hx⟩ : ∃ x, xs[k]? = some x := ⟨xs[k], by simp⟩;have hk' : decide (k < xs.length) = true := by simp [hk]
  have e1 := hs 1 rfl;have e28 := hs 28 rfl;have e29 := hs 29 rfl;clear hs;simp -dsimp -implicitDefEqProofs at e1 e28 e29;refine rS (aN e1 (aN e28 (aN e29 (aN hci (aN hk' hx))))) ?_;refine brA_split (fun g1 => ?_) (fun g1 => ?_)
  ·refine rN ?_;exact ends_int (by rw [<- hr.out, if_neg (by simp; omega), if_neg (by simp; omega), if_pos (any_of hx (by simpa [S.bad] using g1))])
  refine rS (aN hw (aN hci (aN e1 (aN e28 e29)))) ?_;exact below_succ hb.out hx (by simpa [S.bad] using g1)
 ·rintro t h m hci hs ⟨rfl, hb⟩;have hba := any_none hb.out;have e1 := hs 1 rfl;have e28 := hs 28 rfl;have e29 := hs 29 rfl;clear hs;simp -dsimp -implicitDefEqProofs at e1 e28 e29;refine rS (aN e1 (aN e28 (aN e29 hci))) ?_;refine brA_split (fun g1 => ?_) (fun g1 => ?_)
  ·refine rN ?_;exact ends_int (by rw [<- hr.out, if_neg (by simp; omega), if_neg (by simp; omega), if_neg (by simp [hba]), if_pos (by simpa using g1)])
  ·refine rN ?_;exact ends_int (by rw [<- hr.out, if_neg (by simp; omega), if_neg (by simp; omega), if_neg (by simp [hba]), if_neg (by simpa using g1)])
theorem cmd_Check (c : S.Cmd) : C Tryz.prog 93 [.agg (cmdC false c)] (Int' (S.checkCmd c)) [] := by
 obtain ⟨k, z, n, p, xs⟩ := c;obtain ⟨r, hr⟩ : ∃ r, S.checkCmd ⟨k, z, n, p, xs⟩ = r := ⟨_, rfl⟩;rw [hr];unfold S.checkCmd at hr;replace hr := hid hr;refine CI Tryz.func93 ?_;refine rN ?_;refine brA_split (fun h1 => ?_) (fun h1 => ?_)
 ·refine rN ?_;exact ends_int (by simp at h1; rw [<- hr.out, if_pos (by simp; omega)])
 simp at h1;refine rC (cmd_uses k) ?_;refine rN ?_;refine brA_split (fun h2 => ?_) (fun h2 => ?_)
 ·refine rN ?_;exact ends_int (by rw [<- hr.out, if_neg (by simp; omega), if_pos (by simpa [S.misused] using h2)])
 have h2' : ¬ (S.misused ⟨k, z, n, p, xs⟩ = true) := by rw [Bool.not_eq_true]; simpa [S.misused] using h2
 refine rN ?_;refine brA_split (fun h3 => ?_) (fun h3 => ?_)
 ·refine rN ?_;exact ends_int (by simp at h3; rw [<- hr.out, if_neg (by simp; omega), if_neg h2', if_pos (by simp; omega)])
 simp at h3;have h3 : xs.length <= 8 := by omega
 clear h2;refine rC (slices_Concat [z, p, n] xs (by simp) (by omega)) ?_;refine rN ?_;refine loop_count 70 (xs.length + 3) (fun k h _ _ => h = _ /\ Hid (∀ j, j < k -> S.bad ((z :: p :: n :: xs).getD j 0) = false)) _ rfl (by rfl) ⟨rfl, by intro j hj; omega⟩ ?_ ?_
 ·rintro k t h m hk hci hs ⟨rfl, hb⟩;have hw : IntKind.i64.wrap ((k : Int) + 1) = (k : Int) + 1 := wrap_ok (by omega);obtain ⟨x, hx⟩ : ∃ x, (z :: p :: n :: xs)[k]? = some x := ⟨(z :: p :: n :: xs)[k]'(by simp; omega), by simp⟩;have hk' : decide ((k : Int) < xs.length + 1 + 1 + 1) = true := by simp; omega
  have e1 := hs 1 rfl;have e68 := hs 68 rfl;have e69 := hs 69 rfl;clear hs;simp -dsimp -implicitDefEqProofs at e1 e68 e69;replace hk := hid hk;refine rS (aN e1 (aN e68 (aN e69 (aN hci (aN hk' hx))))) ?_;refine brA_split (fun g1 => ?_) (fun g1 => ?_)
  ·refine rN ?_;exact ends_int (by rw [<- hr.out, if_neg (by simp; omega), if_neg h2', if_neg (by simp; omega), if_pos (any_of hx (by simpa [S.bad] using g1))])
  refine rS (aN hw (aN hci (aN e1 (aN e68 e69)))) ?_;exact below_succ hb.out hx (by simpa [S.bad] using g1)
 ·rintro t h m hci hs ⟨rfl, hb⟩;have hba := any_none (xs := z :: p :: n :: xs) (p := S.bad) (by simpa using hb.out);have hk' : decide ((xs.length : Int) + 3 < xs.length + 1 + 1 + 1) = false := by simp; omega
  have e1 := hs 1 rfl;have e68 := hs 68 rfl;have e69 := hs 69 rfl;clear hs;simp -dsimp -implicitDefEqProofs at e1 e68 e69;refine rS (aN e1 (aN e68 (aN e69 (aN hci hk')))) ?_;exact ends_int (by rw [<- hr.out, if_neg (by simp; omega), if_neg h2', if_neg (by simp; omega), if_neg (by simp only [hba]; simp)])
theorem cmd_Copy (c : S.Cmd) (hl : c.d.length <= 100000000) : C Tryz.prog 76 [.agg (cmdC false c)] (.agg (cmdC true c)) [] := by
 refine CI Tryz.func76 ?_;refine rC (clone_int c.d hl) ?_;refine rN ?_;exact ⟨⟨.agg (cmdC true c), by simp -dsimp -implicitDefEqProofs, Sub.refl _⟩, rfl⟩
theorem desk_CopyAnswer (a : S.Answer) (hl : a.d.length <= 100000000) : C Tryz.prog 77 [.agg (ansC false a)] (.agg (ansC true a)) [] := by
 refine CI Tryz.func77 ?_;refine rC (clone_int a.d hl) ?_;refine rN ?_;exact ⟨⟨.agg (ansC true a), by simp -dsimp -implicitDefEqProofs, Sub.refl _⟩, rfl⟩
theorem ends_eq {p : Prop} [Decidable p] {b : Bool} {h : Heap} {n : Nat} (e : b = true ↔ p) : Ends [] (Bool' (decide p)) [] h n (Bool' b) := ends_bool (by
 by_cases hp : p
 ·rw [decide_eq_true hp]; exact e.2 hp
 ·rw [decide_eq_false hp]; exact Bool.eq_false_iff.2 fun hb => hp (e.1 hb))
theorem cmd_Same (a b : S.Cmd) : C Tryz.prog 48 [.agg (cmdC false a), .agg (cmdC false b)] (Bool' (decide (a = b))) [] := by
 refine CI Tryz.func48 ?_;refine rN ?_;refine guardC_C (int_equal a.d b.d) (by first | rfl | (simp -dsimp -implicitDefEqProofs; done)) (by first | exact Or.inr (by rfl) | exact Or.inl (by rfl)) ?_;refine rN ?_;exact ends_eq (by cases a; cases b; simp; grind)
theorem ref_SameCmd (a b : S.Cmd) : C Tryz.prog 52 [.agg (cmdC false a), .agg (cmdC false b)] (Bool' (decide (a = b))) [] := by
 refine CI Tryz.func52 ?_;refine rN ?_;refine guardC_C (int_equal a.d b.d) (by first | rfl | (simp -dsimp -implicitDefEqProofs; done)) (by first | exact Or.inr (by rfl) | exact Or.inl (by rfl)) ?_;refine rN ?_;exact ends_eq (by cases a; cases b; simp; grind)
theorem desk_SameAnswer (a b : S.Answer) : C Tryz.prog 49 [.agg (ansC false a), .agg (ansC false b)] (Bool' (decide (a = b))) [] := by
 refine CI Tryz.func49 ?_;refine rN ?_;refine guardC_C (int_equal a.d b.d) (by first | rfl | (simp -dsimp -implicitDefEqProofs; done)) (by first | exact Or.inr (by rfl) | exact Or.inl (by rfl)) ?_;refine rN ?_;exact ends_eq (by cases a; cases b; simp; grind)
theorem ref_SameAnswer (a b : S.Answer) : C Tryz.prog 53 [.agg (ansC false a), .agg (ansC false b)] (Bool' (decide (a = b))) [] := by
 refine CI Tryz.func53 ?_;refine rN ?_;refine guardC_C (int_equal a.d b.d) (by first | rfl | (simp -dsimp -implicitDefEqProofs; done)) (by first | exact Or.inr (by rfl) | exact Or.inl (by rfl)) ?_;refine rN ?_;exact ends_eq (by cases a; cases b; simp; grind)
def eqAll {α : Type} (eq : α -> α -> Bool) : List α -> List α -> Bool
 | [], [] => true
 | x :: xs, y :: ys => eq x y && eqAll eq xs ys
 | _, _ => false
theorem eqAll_dec {α : Type} [DecidableEq α] (xs ys : List α) : eqAll (fun x y => decide (x = y)) xs ys = decide (xs = ys) := by
 induction xs generalizing ys with
 | nil => cases ys <;> simp [eqAll]
 | cons x xs ih => cases ys <;> simp [eqAll, ih]
theorem eqAll_len {α : Type} {eq : α -> α -> Bool} : ∀ {xs ys : List α}, eqAll eq xs ys = true -> xs.length = ys.length
 | [], [], _ => rfl
 | x :: xs, y :: ys, h => by simp [eqAll] at h; simp [eqAll_len h.2]
theorem eqAll_get {α : Type} {eq : α -> α -> Bool} : ∀ {xs ys : List α}, eqAll eq xs ys = true ↔ xs.length = ys.length /\ ∀ (j : Nat) (x y : α), xs[j]? = some x -> ys[j]? = some y -> eq x y = true
 | [], [] => by simp [eqAll]
 | x :: xs, y :: ys => by
  simp only [eqAll, Bool.and_eq_true, eqAll_get (xs := xs) (ys := ys), List.length_cons, Nat.add_right_cancel_iff];constructor
  ·rintro ⟨h1, h2, h3⟩;refine ⟨h2, fun j => ?_⟩;cases j with
   | zero => intro a b ha hb; cases ha; cases hb; exact h1
   | succ j => intro a b ha hb; exact h3 j a b (by simpa using ha) (by simpa using hb)
  ·rintro ⟨h1, h2⟩;exact ⟨h2 0 x y rfl rfl, h1, fun j a b ha hb => h2 (j + 1) a b (by simpa using ha) (by simpa using hb)⟩
 | [], y :: ys => by simp [eqAll]
 | x :: xs, [] => by simp [eqAll]
theorem equalFunc_answers {α : Type} {enc : α -> List AV} {eq : α -> α -> Bool} {f : FuncId} (he : ∀ x, (enc x).length = 3) (xs ys : List α) (hf : ∀ x y, x ∈ xs -> y ∈ ys -> C Tryz.prog f [.agg (enc x), .agg (enc y)] (Bool' (eq x y)) []) (hp : ∀ (x : α) (h : Heap), viewV h (.agg (enc x)) = some (.agg (enc x)) /\ plainV (.agg (enc x)) = true) :
  C Tryz.prog 94 [.lst false 3 (xs.map enc), .lst false 3 (ys.map enc), .fn f []] (Bool' (eqAll eq xs ys)) [] := by
 refine C_real (fun _ _ => by kernel_rfl) rfl rfl fun hr => ?_
 have hx := (hr.get (j := 0) rfl).len;rw [List.length_map] at hx;unfold maxLen at hx;refine CI Tryz.func94 ?_;refine rN ?_;refine brA_split (fun h1 => ?_) (fun h1 => ?_);rotate_left
 ·refine rN ?_;refine ends_bool (Eq.symm (Bool.eq_false_iff.2 fun h => ?_));have := eqAll_len h;simp at h1;omega
 have hl : xs.length = ys.length := by simp at h1; omega
 refine rN ?_;refine loop_count 17 xs.length (fun k _ m _ => (∃ d, m = d + 20) /\ Hid (∀ (j : Nat), j < k -> ∀ (x y : α), xs[j]? = some x -> ys[j]? = some y -> eq x y = true)) _ rfl (by rfl) ⟨⟨_, rfl⟩, by intro j hj; omega⟩ ?_ ?_
 ·rintro k t h m hk hci hs ⟨⟨d, rfl⟩, hb⟩;have hw : IntKind.i64.wrap ((k : Int) + 1) = (k : Int) + 1 := wrap_ok (by omega);obtain ⟨x, hx⟩ : ∃ x, xs[k]? = some x := ⟨xs[k], by simp⟩;obtain ⟨y, hy⟩ : ∃ y, ys[k]? = some y := ⟨ys[k]'(by omega), by simp⟩;have hk' : decide (k < xs.length) = true := by simp [hk]
  have e0 := hs 0 rfl;have e1 := hs 1 rfl;have e2 := hs 2 rfl;have e15 := hs 15 rfl;have e16 := hs 16 rfl;clear hs;simp -dsimp -implicitDefEqProofs at e0 e1 e2 e15 e16;have hex := he x;have hey := he y;replace hk := hid hk;replace hl := hid hl;have hf' := hid (hf x y (List.mem_of_getElem? hx) (List.mem_of_getElem? hy));obtain ⟨a0, a1, a2, ea⟩ := len3 hex;obtain ⟨b0, b1, b2, eb⟩ := len3 hey;have px := fun h => (hp x h).1
  have py := fun h => (hp y h).1
  have qx := (hp x (fun _ => none)).2;have qy := (hp y (fun _ => none)).2;rw [ea] at hf' px qx;rw [eb] at hf' py qy;replace px := hid px;replace py := hid py;clear hf hp;refine rS (aN e0 (aN e1 (aN e2 (aN e15 (aN e16 (aN hci (aN hk' (aN hx (aN hy (aN ea eb)))))))))) ?_;refine call_C hf'.out (by rw [List.mapM_cons, px.out, List.mapM_cons, py.out]; rfl) (Or.inr (by rw [List.all_cons, qx, List.all_cons, qy]; rfl)) (Nat.le_of_ble_eq_true rfl) ?_;refine rN ?_;cases hxy : eq x y
  ·refine rN ?_;refine ends_bool (Eq.symm (Bool.eq_false_iff.2 fun h => ?_));have := (eqAll_get.1 h).2 k x y hx hy;rw [hxy] at this;cases this
  ·refine rS (aN hw (aN hci (aN e0 (aN e1 (aN e2 (aN e15 e16)))))) ?_;intro j hj x' y' hx' hy';rcases Nat.lt_or_ge j k with g | g
   ·exact hb.out j g x' y' hx' hy'
   ·have : j = k := by omega
    subst this;rw [hx] at hx';rw [hy] at hy';cases hx'; cases hy'
    exact hxy
 ·rintro t h m hci hs ⟨⟨d, rfl⟩, hb⟩;have e0 := hs 0 rfl;have e1 := hs 1 rfl;have e2 := hs 2 rfl;have e15 := hs 15 rfl;have e16 := hs 16 rfl;clear hs;simp -dsimp -implicitDefEqProofs at e0 e1 e2 e15 e16;refine rS (aN e0 (aN e1 (aN e2 (aN e15 (aN e16 hci))))) ?_;exact ends_bool (Eq.symm (eqAll_get.2 ⟨hl, fun j x y hx hy => hb.out j (List.getElem?_eq_some_iff.1 hx).1 x y hx hy⟩))
abbrev handC (fr : Bool) (h : S.Hand) : List AV := [Int' h.seq, Bool' h.waits, Int' h.c.kind, Int' h.c.z, Int' h.c.n, Int' h.c.pos, .lst fr 1 (I h.c.d), .lst fr 3 (h.got.map (ansC false))]
theorem equal_answers (xs ys : List S.Answer) : C Tryz.prog 94 [.lst false 3 (xs.map (ansC false)), .lst false 3 (ys.map (ansC false)), .fn 49 []] (Bool' (decide (xs = ys))) [] := by
 rw [<- eqAll_dec];exact equalFunc_answers (fun _ => rfl) xs ys (fun x y _ _ => desk_SameAnswer x y) (fun _ _ => ⟨rfl, rfl⟩)
theorem equal_answers_ref (xs ys : List S.Answer) : C Tryz.prog 94 [.lst false 3 (xs.map (ansC false)), .lst false 3 (ys.map (ansC false)), .fn 53 []] (Bool' (decide (xs = ys))) [] := by
 rw [<- eqAll_dec];exact equalFunc_answers (fun _ => rfl) xs ys (fun x y _ _ => ref_SameAnswer x y) (fun _ _ => ⟨rfl, rfl⟩)
theorem hand_Same (a b : S.Hand) : C Tryz.prog 45 [.agg (handC false a), .agg (handC false b)] (Bool' (decide (a = b))) [] := by
 refine CI Tryz.func45 ?_;refine rN ?_;refine guardC_C (cmd_Same a.c b.c) (by first | rfl | (simp -dsimp -implicitDefEqProofs; done)) (by first | exact Or.inr (by rfl) | exact Or.inl (by rfl)) ?_;refine rN ?_;refine guardC_C (equal_answers a.got b.got) (by first | rfl | (simp -dsimp -implicitDefEqProofs; done)) (by first | exact Or.inr (by rfl) | exact Or.inl (by rfl)) ?_;refine rN ?_;exact ends_eq (by cases a; cases b; simp; grind)
theorem ref_SameHand (a b : S.Hand) : C Tryz.prog 50 [.agg (handC false a), .agg (handC false b)] (Bool' (decide (a = b))) [] := by
 refine CI Tryz.func50 ?_;refine rN ?_;refine guardC_C (ref_SameCmd a.c b.c) (by first | rfl | (simp -dsimp -implicitDefEqProofs; done)) (by first | exact Or.inr (by rfl) | exact Or.inl (by rfl)) ?_;refine rN ?_;refine guardC_C (equal_answers_ref a.got b.got) (by first | rfl | (simp -dsimp -implicitDefEqProofs; done)) (by first | exact Or.inr (by rfl) | exact Or.inl (by rfl)) ?_;refine rN ?_;exact ends_eq (by cases a; cases b; simp; grind)
theorem firstBad_none {α : Type} {f : α -> Int} {xs : List α} (h : ∀ (j : Nat) (x : α), j < xs.length -> xs[j]? = some x -> f x = 0) : S.firstBad f xs = 0 := by
 induction xs with
 | nil => rfl
 | cons x xs ih =>
  unfold S.firstBad;rw [if_neg (by simpa using h 0 x (by simp) rfl)];exact ih fun j y hj hy => h (j + 1) y (by simpa using hj) (by simpa using hy)
theorem firstBad_at {α : Type} {f : α -> Int} {xs : List α} {k : Nat} {x : α} (h : ∀ (j : Nat) (x : α), j < k -> xs[j]? = some x -> f x = 0) (hx : xs[k]? = some x) (hf : f x ≠ 0) : S.firstBad f xs = f x := by
 induction xs generalizing k with
 | nil => simp at hx
 | cons y xs ih =>
  unfold S.firstBad;cases k with
  | zero => cases hx; rw [if_pos hf]
  | succ k =>
   rw [if_neg (by simpa using h 0 y (by omega) rfl)];exact ih (k := k) (fun j z hj hz => h (j + 1) z (by omega) (by simpa using hz)) (by simpa using hx)
theorem upto_succ {α : Type} {p : α -> Prop} {xs : List α} {k : Nat} {x : α} (h : ∀ (j : Nat) (x : α), j < k -> xs[j]? = some x -> p x) (hx : xs[k]? = some x) (hp : p x) : ∀ (j : Nat) (x : α), j < k + 1 -> xs[j]? = some x -> p x := by
 intro j y hj hy;rcases Nat.lt_or_ge j k with g | g
 ·exact h j y g hy
 ·have : j = k := by omega
  subst this;rw [hx] at hy; cases hy
  exact hp
abbrev cmd0 : AV := .agg [Int' 0, Int' 0, Int' 0, Int' 0, .nl]
abbrev ans0 : AV := .agg [Int' 0, Int' 0, .nl]
theorem sub_cmd0 : SubA cmd0 (.agg (cmdC false S.Cmd.zero)) := .agg (.cons (.refl _) (.cons (.refl _) (.cons (.refl _) (.cons (.refl _) (.cons .nl (.nil _))))))
theorem sub_ans0 : SubA ans0 (.agg (ansC false S.Answer.zero)) := .agg (.cons (.refl _) (.cons (.refl _) (.cons .nl (.nil _))))
theorem cmd_Same0 (c : S.Cmd) : C Tryz.prog 48 [.agg (cmdC false c), cmd0] (Bool' (decide (c = S.Cmd.zero))) [] := (cmd_Same c S.Cmd.zero).args (.cons (.refl _) (.cons sub_cmd0 (.nil _)))
theorem ref_SameCmd0 (c : S.Cmd) : C Tryz.prog 52 [.agg (cmdC false c), cmd0] (Bool' (decide (c = S.Cmd.zero))) [] := (ref_SameCmd c S.Cmd.zero).args (.cons (.refl _) (.cons sub_cmd0 (.nil _)))
theorem hand_Check (h : S.Hand) : C Tryz.prog 43 [.agg (handC false h)] (Int' (S.checkHand h)) [] := by
 refine C_real (fun _ _ => by kernel_rfl) rfl rfl fun hr => ?_
 have hlen := ((hr.get (j := 0) rfl).field (j := 7) rfl).len;rw [List.length_map] at hlen;unfold maxLen at hlen;clear hr;obtain ⟨s, w, c, got⟩ := h;simp only at hlen;obtain ⟨r, hr⟩ : ∃ r, S.checkHand ⟨s, w, c, got⟩ = r := ⟨_, rfl⟩;rw [hr];unfold S.checkHand at hr;simp only at hr;replace hr := hid hr;refine CI Tryz.func43 ?_;refine rN ?_;refine brA_split (fun h1 => ?_) (fun h1 => ?_)
 ·refine rN ?_;exact ends_int (by simp at h1; rw [<- hr.out, if_pos (by omega)])
 simp at h1;have c1 : ¬ (s < 0 \/ 40 < s) := by omega
 refine rN ?_;refine loop_count 18 got.length (fun k h m _ => h 0 = some ⟨85, 8, [handC false ⟨s, w, c, got⟩]⟩ /\ (∃ d, m = d + 20) /\ Hid (∀ (j : Nat) (x : S.Answer), j < k -> got[j]? = some x -> S.checkAnswer x = 0)) _ rfl (by rfl) ⟨rfl, ⟨_, rfl⟩, by intro j hj; omega⟩ ?_ ?_
 ·rintro k t h m hk hci hs ⟨h0, ⟨d, rfl⟩, hb⟩;have hw : IntKind.i64.wrap ((k : Int) + 1) = (k : Int) + 1 := wrap_ok (by omega);obtain ⟨x, hx⟩ : ∃ x, got[k]? = some x := ⟨got[k], by simp⟩;have hk' : decide (k < got.length) = true := by simp [hk]
  have e1 := hs 1 rfl;have e16 := hs 16 rfl;have e17 := hs 17 rfl;clear hs;simp -dsimp -implicitDefEqProofs at e1 e16 e17;replace hk := hid hk;refine rD (aN e1 (aN e16 (aN e17 (aN hci (aN hk' (aN hx h0)))))) (desk_CheckAnswer x) ?_;refine rN ?_;refine brA_split (fun g1 => ?_) (fun g1 => ?_)
  ·refine rS (aN hw (aN hci (aN e1 (aN e16 (aN e17 h0))))) ?_;exact upto_succ hb.out hx (by simpa using g1)
  ·refine rN ?_;exact ends_int (by rw [<- hr.out, if_neg c1, firstBad_at hb.out hx (by simpa using g1), if_pos (by simpa using g1)])
 ·rintro t h m hci hs ⟨h0, ⟨d, rfl⟩, hb⟩;have hfb := firstBad_none (f := S.checkAnswer) (xs := got) hb.out;have e1 := hs 1 rfl;have e16 := hs 16 rfl;have e17 := hs 17 rfl;clear hs;simp -dsimp -implicitDefEqProofs at e1 e16 e17;have hr2 := hr.out;rw [if_neg c1, hfb, if_neg (by simp)] at hr2;replace hr2 := hid hr2;clear hr;refine rS (aN e1 (aN e16 (aN e17 (aN hci h0)))) ?_;cases w
  ·refine rS (aN h0 (aN e1 (aN e16 e17))) ?_;refine guardC_C (cmd_Same0 c) (by first | rfl | (simp -dsimp -implicitDefEqProofs; done)) (by first | exact Or.inr (by rfl) | exact Or.inl (by rfl)) ?_;refine rN ?_;refine brA_split (fun g => ?_) (fun g => ?_)
   ·refine rN ?_;exact ends_int (by rw [<- hr2.out, if_pos (by simp at g; simpa using g)])
   ·refine rS (aN h0 (aN e1 (aN e16 e17))) ?_;exact ends_int (by rw [<- hr2.out, if_neg (by simp at g; simpa using g)]; rfl)
  ·obtain ⟨u, hu, hus⟩ : ∃ u, IntKind.i64.wrap ((got.length : Int) + 1) = u /\ (u = s ↔ (got.length : Int) + 1 = s) := by
    refine ⟨_, rfl, ?_⟩;rw [IntKind.wrap_i64];omega
   replace hus := hid hus;refine rS (aN h0 (aN e1 (aN e16 (aN e17 hu)))) ?_;refine brA_split (fun g => ?_) (fun g => ?_)
   ·refine rD (aN h0 (aN e1 (aN e16 e17))) (cmd_Check c) ?_;refine rN ?_;exact ends_int (by rw [<- hr2.out, if_neg (by simpa using hus.out.1 (by simpa using g))]; rfl)
   ·refine rN ?_;exact ends_int (by rw [<- hr2.out, if_pos (by simp at g; simpa using fun h => g (hus.out.2 h))])
end Go.Proofs.YtadmfokicjjglaaGreatDoor.E
