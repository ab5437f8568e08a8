/- L1: Lc: the book's moves, by the engine. Ld: the book's moves, by the engine. Le: more of the book, by the engine. Lf: more of the book, by the engine. Lg: more of the book, by the engine. Lh: law.booked, by the engine. Li: the reference's reading of a book, by the engine. Lj: ref.CheckBook, by the engine. Lk: law.BookAlone, by the engine. Ll: law.BookHolds, by the engine. -/
import Derived.Test.YtadmfokicjjglaaGreatDoorA1
import Derived.Test.YtadmfokicjjglaaGreatDoorX3
namespace Go.Proofs.YtadmfokicjjglaaGreatDoor.E
open Go.RowKit Go.Proofs
set_option maxRecDepth 100000
set_option maxHeartbeats 1000000
set_option linter.unusedSimpArgs false
theorem ends_book {x y : AV} {b : S.Book} {c bh bt cc : Int} {h : Heap} {n : Nat} (hx : outLeaf h [] x = some y) (hy : SubF y (.lst true 1 (I b.k))) (e1 : bh = b.h) (e2 : bt = b.t) (e3 : cc = c) :
  Ends [] (.tup [BkN b, Int' c]) [] h n (.tup [.agg [x, Int' bh, Int' bt], Int' cc]) := by
 subst e1 e2 e3;refine ⟨⟨.tup [.agg [y, Int' b.h, Int' b.t], Int' cc], ?_, .tup (.cons (.agg (.cons hy (.cons (.refl _) (.cons (.refl _) (.nil _))))) (.cons (.leaf (.refl _)) (.nil _)))⟩, rfl⟩;have i (z : Int) : outLeaf h [] (Int' z) = some (Int' z) := rfl;have i2 (z : Int) : outAgg h [] (Int' z) = some (Int' z) := rfl
 have e : outAgg h [] (.agg [x, Int' b.h, Int' b.t]) = some (.agg [y, Int' b.h, Int' b.t]) := by
  show (List.mapM (outLeaf h []) [x, Int' b.h, Int' b.t]).map AV.agg = _;simp only [List.mapM_cons, List.mapM_nil, hx, i, Option.pure_def, Option.bind_eq_bind, Option.bind_some, Option.map_some]
 show (List.mapM (outAgg h []) [.agg [x, Int' b.h, Int' b.t], Int' cc]).map AV.tup = _;simp only [List.mapM_cons, List.mapM_nil, e, i2, Option.pure_def, Option.bind_eq_bind, Option.bind_some, Option.map_some]
theorem ready_shape {b : S.Book} {who : Int} (h : S.ready b who = 0) : (∃ x0 x1 x2, b.k = [x0, x1, x2]) /\ (who = 0 \/ who = 1 \/ who = 2) /\ S.checkBook b = 0 := by
 have h1 : S.checkBook b = 0 := by
  unfold S.ready at h;split at h
  ·exact h
  ·rename_i g; simpa using g
 have h2 : ¬ (who < 0 \/ 3 <= who) := by
  intro g;unfold S.ready at h;rw [if_neg (by simp [h1]), if_pos g] at h;cases h
 refine ⟨?_, by omega, h1⟩
 have hl : b.k.length = 3 := by
  by_cases g : b.k.length = 3
  ·exact g
  ·unfold S.checkBook at h1; rw [if_pos g] at h1; cases h1
 match b.k, hl with
 | [x0, x1, x2], _ => exact ⟨x0, x1, x2, rfl⟩
theorem book_Copy (b : S.Book) (hl : b.k.length <= 100000000) : C Tryz.prog 147 [Bk b] (.agg [.own 0 0 b.k.length, Int' b.h, Int' b.t]) [⟨3, 1, I b.k⟩] := by
 refine C_inline [16] Tryz.func147 (fun _ _ => by kernel_rfl) rfl (by kernel_rfl) (by rfl) (by decide) (by rfl) (by rfl) (plain_I _) ?_;simp -dsimp -implicitDefEqProofs [initT];refine call_C (clone_int b.k hl) rfl (Or.inr (by rfl)) (Nat.le_of_ble_eq_true rfl) ?_;simp -dsimp -implicitDefEqProofs;exact ⟨⟨_, rfl, Sub.refl _⟩, rfl⟩
theorem book_ready_bad (b : S.Book) (who : Int) (h : S.ready b who ≠ 0) : C Tryz.prog 184 [Bk b, Int' who] (.tup [BkN S.Book.zero, Int' (S.ready b who)]) [] := by
 refine CI Tryz.func184 ?_;simp -dsimp -implicitDefEqProofs [initT];refine call_C (book_Check b) rfl (Or.inr (by rfl)) (Nat.le_of_ble_eq_true rfl) ?_;simp -dsimp -implicitDefEqProofs;by_cases h1 : S.checkBook b = 0
 ·have hl : (b.k.length : Int) = 3 := by
   have : b.k.length = 3 := by
    by_cases g : b.k.length = 3
    ·exact g
    ·unfold S.checkBook at h1; rw [if_pos g] at h1; cases h1
   omega
  have hr : S.ready b who = if who < 0 \/ 3 <= who then 5 else 0 := by unfold S.ready; rw [if_neg (by simp [h1])]
  have hw : who < 0 \/ 3 <= who := by rw [hr] at h; grind
  rw [if_pos hw] at hr;rw [hr];replace h := hid h;have cs : decide (who < 0) = true \/ (decide (who < 0) = false /\ decide (3 <= who) = true) := by simp; omega
  clear hw hr;rcases cs with c | ⟨c, d⟩
  ·simp -dsimp -implicitDefEqProofs [h1, c];exact ends_book rfl .nl rfl rfl rfl
  ·simp -dsimp -implicitDefEqProofs [h1, c, d, hl];exact ends_book rfl .nl rfl rfl rfl
 ·have hr : S.ready b who = S.checkBook b := by unfold S.ready; rw [if_pos h1]
  rw [hr];simp -dsimp -implicitDefEqProofs [h1];exact ends_book rfl .nl rfl rfl rfl
theorem book_ready_ok (b : S.Book) (who : Int) (h : S.ready b who = 0) : C Tryz.prog 184 [Bk b, Int' who] (.tup [.agg [.own 0 0 3, Int' b.h, Int' b.t], Int' 0]) [⟨3, 1, I b.k⟩] := by
 obtain ⟨⟨x0, x1, x2, hk⟩, hw, hc⟩ := ready_shape h;obtain ⟨xs, bh, bt⟩ := b;simp only at hk;subst hk;refine C_inline [72] Tryz.func184 (fun _ _ => by kernel_rfl) rfl (by kernel_rfl) (by rfl) (by decide) (by rfl) (by rfl) (plain_I _) ?_;simp -dsimp -implicitDefEqProofs [initT];refine call_C (book_Check ⟨[x0, x1, x2], bh, bt⟩) rfl (Or.inr (by rfl)) (Nat.le_of_ble_eq_true rfl) ?_;have c1 : decide (who < 0) = false := decide_eq_false (by omega);have c2 : decide (3 <= who) = false := decide_eq_false (by omega);simp -dsimp -implicitDefEqProofs [hc, c1, c2];refine call_C (book_Copy ⟨[x0, x1, x2], bh, bt⟩ (by simp)) rfl (Or.inr (by rfl)) (Nat.le_of_ble_eq_true rfl) ?_;simp -dsimp -implicitDefEqProofs;exact ⟨⟨_, rfl, Sub.refl _⟩, rfl⟩
@[simp] theorem I_cons (x : Int) (xs : List Int) : I (x :: xs) = [.at (.int .i64 x)] :: I xs := rfl
@[simp] theorem I_nil : I [] = [] := rfl
theorem ends_book2 (ks : List Int) {x : AV} {bh bt c : Int} {r : S.Book × Int} {h : Heap} {n : Nat} (hx : outLeaf h [] x = some (.lst true 1 (I ks))) (e : r = (⟨ks, bh, bt⟩, c)) :
  Ends [] (.tup [BkN r.1, Int' r.2]) [] h n (.tup [.agg [x, Int' bh, Int' bt], Int' c]) := by
 subst e;exact ends_book hx (.refl _) rfl rfl rfl
theorem ends_book0 {c : Int} {r : S.Book × Int} {h : Heap} {n : Nat} (e : r = (S.Book.zero, c)) :
  Ends [] (.tup [BkN r.1, Int' r.2]) [] h n (.tup [.agg [.nl, Int' 0, Int' 0], Int' c]) := by
 subst e;exact ends_book rfl .nl rfl rfl rfl
theorem book_Register (b : S.Book) (who key : Int) : C Tryz.prog 151 [Bk b, Int' who, Int' key] (.tup [BkN (S.register b who key).1, Int' (S.register b who key).2]) [] := by
 by_cases h : S.ready b who = 0
 ·obtain ⟨⟨x0, x1, x2, hk⟩, hw, hc⟩ := ready_shape h;obtain ⟨xs, bh, bt⟩ := b;simp only at hk;subst hk
  have hr : S.register ⟨[x0, x1, x2], bh, bt⟩ who key = if key < 0 \/ 9 < key then (S.Book.zero, 3) else if key = 0 /\ bh = who then (⟨[x0, x1, x2].set who.toNat key, -1, 0⟩, 0) else (⟨[x0, x1, x2].set who.toNat key, bh, bt⟩, 0) := by
   unfold S.register;rw [if_neg (by simp [h])]
  generalize S.register ⟨[x0, x1, x2], bh, bt⟩ who key = r at hr ⊢;replace hr := hid hr;have hready := hid (book_ready_ok ⟨[x0, x1, x2], bh, bt⟩ who h);clear h hc;obtain ⟨w0, hw0⟩ : ∃ w, w = who := ⟨_, rfl⟩;rcases hw with rfl | rfl | rfl
  all_goals
   refine CI Tryz.func151 ?_;simp -dsimp -implicitDefEqProofs [initT];refine call_C hready.out rfl (Or.inr (by rfl)) (Nat.le_of_ble_eq_true rfl) ?_;simp -dsimp -implicitDefEqProofs;refine brA_split (fun h1 => ?_) (fun h1 => ?_) <;> simp -dsimp -implicitDefEqProofs [*]
   ·exact ends_book0 (hr.out.trans (by simp at h1; rw [if_pos (by omega)]))
   refine brA_split (fun h2 => ?_) (fun h2 => ?_) <;> simp -dsimp -implicitDefEqProofs [*]
   ·exact ends_book0 (hr.out.trans (by simp at h2; rw [if_pos (by omega)]))
   by_cases c1 : key = 0
   ·subst c1;by_cases c2 : bh = w0
    ·subst hw0;  subst c2
     simp -dsimp -implicitDefEqProofs;refine CSI Tryz.func185 ?_;simp -dsimp -implicitDefEqProofs [initT];exact ends_book2 [_, _, _] rfl (hr.out.trans (by simp))
    ·subst hw0;simp -dsimp -implicitDefEqProofs [c2];exact ends_book2 [_, _, _] rfl (hr.out.trans (by simp [c2]))
   ·simp -dsimp -implicitDefEqProofs [c1];exact ends_book2 [_, _, _] rfl (hr.out.trans (by simp [c1]; simp at h1 h2; omega))
 ·refine CI Tryz.func151 ?_;simp -dsimp -implicitDefEqProofs [initT];refine call_C (book_ready_bad b who h) rfl (Or.inr (by rfl)) (Nat.le_of_ble_eq_true rfl) ?_;simp -dsimp -implicitDefEqProofs [h];exact ends_book0 (by unfold S.register; rw [if_pos h])
theorem book_New : C Tryz.prog 128 [] (BkN S.Book.new) [] := by
 refine CI Tryz.func128 ?_;simp -dsimp -implicitDefEqProofs [initT];exact ⟨⟨_, rfl, .one (.agg (.cons (.lst (fun h => h) (SubR.refl _)) (.cons (.refl _) (.cons (.refl _) (.nil _)))))⟩, rfl⟩
theorem ref_FreshBook : C Tryz.prog 129 [] (BkN S.Book.new) [] := by
 refine CI Tryz.func129 ?_;simp -dsimp -implicitDefEqProofs [initT];exact ⟨⟨_, rfl, .one (.agg (.cons (.lst (fun h => h) (SubR.refl _)) (.cons (.refl _) (.cons (.refl _) (.nil _)))))⟩, rfl⟩
theorem book_Release (b : S.Book) (who : Int) : C Tryz.prog 153 [Bk b, Int' who] (.tup [BkN (S.release b who).1, Int' (S.release b who).2]) [] := by
 by_cases h : S.ready b who = 0
 ·obtain ⟨⟨x0, x1, x2, hk⟩, hw, hc⟩ := ready_shape h;obtain ⟨xs, bh, bt⟩ := b;simp only at hk;subst hk
  have hr : S.release ⟨[x0, x1, x2], bh, bt⟩ who = if S.Book.key ⟨[x0, x1, x2], bh, bt⟩ who = 0 then (S.Book.zero, 8) else if bh = who then (⟨[x0, x1, x2], -1, 0⟩, 0) else (⟨[x0, x1, x2], bh, bt⟩, 0) := by
   unfold S.release;rw [if_neg (by simp [h])]
  generalize S.release ⟨[x0, x1, x2], bh, bt⟩ who = r at hr ⊢;replace hr := hid hr;have hready := hid (book_ready_ok ⟨[x0, x1, x2], bh, bt⟩ who h);clear h hc;obtain ⟨w0, hw0⟩ : ∃ w, w = who := ⟨_, rfl⟩;rcases hw with rfl | rfl | rfl
  all_goals
   refine CI Tryz.func153 ?_;simp -dsimp -implicitDefEqProofs [initT];refine call_CC (hready.out) ?_;simp -dsimp -implicitDefEqProofs;refine brA_split (fun h1 => ?_) (fun h1 => ?_) <;> simp -dsimp -implicitDefEqProofs [*]
   ·exact ends_book0 (hr.out.trans (by simp at h1; simp [S.Book.key, h1]))
   simp at h1;by_cases c2 : bh = w0
   ·subst hw0 c2;simp -dsimp -implicitDefEqProofs;refine CSI Tryz.func185 ?_;simp -dsimp -implicitDefEqProofs [initT];exact ends_book2 [_, _, _] rfl (hr.out.trans (by simp [S.Book.key, h1]))
   ·subst hw0;simp -dsimp -implicitDefEqProofs [c2];exact ends_book2 [_, _, _] rfl (hr.out.trans (by simp [S.Book.key, h1, c2]))
 ·refine CI Tryz.func153 ?_;simp -dsimp -implicitDefEqProofs [initT];refine call_CC ((book_ready_bad b who h)) ?_;simp -dsimp -implicitDefEqProofs [h];exact ends_book0 (by unfold S.release; rw [if_pos h])
theorem book_Clear (b : S.Book) (who : Int) : C Tryz.prog 155 [Bk b, Int' who] (.tup [BkN (S.clear b who).1, Int' (S.clear b who).2]) [] := by
 by_cases h : S.ready b who = 0
 ·obtain ⟨⟨x0, x1, x2, hk⟩, hw, hc⟩ := ready_shape h;obtain ⟨xs, bh, bt⟩ := b;simp only at hk;subst hk
  have hr : S.clear ⟨[x0, x1, x2], bh, bt⟩ who = if S.Book.key ⟨[x0, x1, x2], bh, bt⟩ who = 0 then (S.Book.zero, 8) else (S.Book.new, 0) := by
   unfold S.clear;rw [if_neg (by simp [h])]
  generalize S.clear ⟨[x0, x1, x2], bh, bt⟩ who = r at hr ⊢;replace hr := hid hr;have hready := hid (book_ready_ok ⟨[x0, x1, x2], bh, bt⟩ who h);clear h hc;rcases hw with rfl | rfl | rfl
  all_goals
   refine CI Tryz.func155 ?_;simp -dsimp -implicitDefEqProofs [initT];refine call_CC (hready.out) ?_;simp -dsimp -implicitDefEqProofs;refine brA_split (fun h1 => ?_) (fun h1 => ?_) <;> simp -dsimp -implicitDefEqProofs [*]
   ·exact ends_book0 (hr.out.trans (by simp at h1; simp [S.Book.key, h1]))
   simp at h1;refine call_C book_New rfl (Or.inr (by rfl)) (Nat.le_of_ble_eq_true rfl) ?_;simp -dsimp -implicitDefEqProofs;exact ends_book2 [_, _, _] rfl (hr.out.trans (by simp [S.Book.key, h1]; rfl))
 ·refine CI Tryz.func155 ?_;simp -dsimp -implicitDefEqProofs [initT];refine call_CC ((book_ready_bad b who h)) ?_;simp -dsimp -implicitDefEqProofs [h];exact ends_book0 (by unfold S.clear; rw [if_pos h])
theorem book_Reserve (b : S.Book) (who kind : Int) : C Tryz.prog 152 [Bk b, Int' who, Int' kind] (.tup [BkN (S.reserve b who kind).1, Int' (S.reserve b who kind).2]) [] := by
 by_cases h : S.ready b who = 0
 ·obtain ⟨⟨x0, x1, x2, hk⟩, hw, hc⟩ := ready_shape h;obtain ⟨xs, bh, bt⟩ := b;simp only at hk;subst hk
  have hr : S.reserve ⟨[x0, x1, x2], bh, bt⟩ who kind = if kind < 1 \/ 4 < kind then (S.Book.zero, 3) else if S.Book.key ⟨[x0, x1, x2], bh, bt⟩ who = 0 \/ (0 <= bh /\ (bh ≠ who \/ bt ≠ kind)) then (S.Book.zero, 8) else (⟨[x0, x1, x2], who, kind⟩, 0) := by
   unfold S.reserve;rw [if_neg (by simp [h])]
  generalize S.reserve ⟨[x0, x1, x2], bh, bt⟩ who kind = r at hr ⊢;replace hr := hid hr;have hready := hid (book_ready_ok ⟨[x0, x1, x2], bh, bt⟩ who h);clear h hc;rcases hw with rfl | rfl | rfl
  all_goals
   refine CI Tryz.func152 ?_;simp -dsimp -implicitDefEqProofs [initT];refine call_CC (hready.out) ?_;simp -dsimp -implicitDefEqProofs;repeat' (refine brA_split (fun g => ?_) (fun g => ?_) <;> simp -dsimp -implicitDefEqProofs [*])
   all_goals
    simp at *
    first
     | exact ends_book0 (hr.out.trans (by simp [S.Book.key]; grind))
     | exact ends_book2 [_, _, _] rfl (hr.out.trans (by simp [S.Book.key]; grind))
 ·refine CI Tryz.func152 ?_;simp -dsimp -implicitDefEqProofs [initT];refine call_CC ((book_ready_bad b who h)) ?_;simp -dsimp -implicitDefEqProofs [h];exact ends_book0 (by unfold S.reserve; rw [if_pos h])
theorem ends_may {b x : Bool} {c y : Int} {h : Heap} {n : Nat} (e : (x, y) = (b, c)) : Ends [] (.tup [Bool' b, Int' c]) [] h n (.tup [Bool' x, Int' y]) := by
 cases e;exact ⟨⟨_, rfl, Sub.refl _⟩, rfl⟩
theorem book_May (b : S.Book) (who : Int) (write : Bool) : C Tryz.prog 156 [Bk b, Int' who, Bool' write] (.tup [Bool' (S.may b who write).1, Int' (S.may b who write).2]) [] := by
 by_cases h : S.ready b who = 0
 ·obtain ⟨⟨x0, x1, x2, hk⟩, hw, hc⟩ := ready_shape h;obtain ⟨xs, bh, bt⟩ := b;simp only at hk;subst hk
  have hr : S.may ⟨[x0, x1, x2], bh, bt⟩ who write = (S.might ⟨[x0, x1, x2], bh, bt⟩ who write, 0) := by
   unfold S.may;rw [if_neg (by simp [h])]
  generalize S.may ⟨[x0, x1, x2], bh, bt⟩ who write = r at hr ⊢;replace hr := hid hr;have hready := hid (book_ready_ok ⟨[x0, x1, x2], bh, bt⟩ who h);clear h hc;rcases hw with rfl | rfl | rfl
  all_goals
   cases write
   all_goals
    refine CI Tryz.func156 ?_;simp -dsimp -implicitDefEqProofs [initT];refine call_CC (hready.out) ?_;simp -dsimp -implicitDefEqProofs;repeat' (refine brA_split (fun g => ?_) (fun g => ?_) <;> simp -dsimp -implicitDefEqProofs [*])
    all_goals
     refine ends_may (Eq.trans ?_ hr.out.symm);simp at *;simp [S.might, S.Book.key];try grind
 ·refine CI Tryz.func156 ?_;simp -dsimp -implicitDefEqProofs [initT];refine call_CC ((book_ready_bad b who h)) ?_;simp -dsimp -implicitDefEqProofs [h];exact ends_may (by unfold S.may; rw [if_pos h])
def _root_.Go.Proofs.YtadmfokicjjglaaGreatDoor.S.same (a b : S.Book) : Bool := decide (a.k = b.k) && decide (a.h = b.h) && decide (a.t = b.t)
theorem ref_in (x lo hi : Int) : C Tryz.prog 63 [Int' x, Int' lo, Int' hi] (Bool' (decide (lo <= x) && decide (x <= hi))) [] := by
 refine CI Tryz.func63 ?_;simp -dsimp -implicitDefEqProofs [initT];repeat' (refine brA_split (fun g => ?_) (fun g => ?_) <;> simp -dsimp -implicitDefEqProofs [*])
 all_goals
  refine ends_bool ?_;simp at *;try simp [*]
  try omega
@[simp] theorem wrap_1 : IntKind.i64.wrap 1 = 1 := wrap_ok (by omega)
@[simp] theorem wrap_2 : IntKind.i64.wrap 2 = 2 := wrap_ok (by omega)
@[simp] theorem wrap_3 : IntKind.i64.wrap 3 = 3 := wrap_ok (by omega)
theorem mapM_self {α : Type} {f : α -> Option α} : ∀ {l : List α}, (∀ x, x ∈ l -> f x = some x) -> l.mapM f = some l
 | [], _ => by simp
 | x :: l, h => by
  rw [List.mapM_cons, h x (by simp), mapM_self (fun y hy => h y (by simp [hy]))];rfl
theorem own_shown {h : Heap} {i : Nat} {ty : TypeId} (ks : List Int) (hi : h i = some ⟨ty, 1, I ks⟩) : outLeaf h [] (.own i 0 ks.length) = some (.lst true 1 (I ks)) := by
 have e1 : (I ks).mapM (fun (r : List AV) => r.mapM (leafP h [] 2)) = some (I ks) := mapM_self fun r hr => by
  simp only [I, List.mem_map] at hr;obtain ⟨x, _, rfl⟩ := hr;rfl
 have e2 : leafP h [] 3 (.own i 0 ks.length) = some (.lst false 1 (I ks)) := by
  show (match h i with | some e => if 0 + ks.length <= e.rows.length then (((e.rows.drop 0).take ks.length).mapM fun (r : List AV) => r.mapM (leafP h [] 2)).map (AV.lst false e.s ·) else none | none => none) = _;rw [hi];simp only [List.drop_zero];rw [if_pos (by simp), List.take_of_length_le (by simp), e1];rfl
 have e3 : ((I ks).all fun r => r.all freshCell) = true := by simp [I, freshCell]
 show (match h i, leafP h [] 3 (.own i 0 ks.length) with | some e, some (.lst _ s rows) => some (AV.lst (e.rows.all fun r => r.all freshCell) s rows) | _, _ => none) = _;rw [hi, e2];simp only [e3]
theorem ends_own (ks : List Int) {ty : TypeId} {i : Nat} {bh bt c : Int} {r : S.Book × Int} {h : Heap} {n : Nat} (hi : h i = some ⟨ty, 1, I ks⟩) (e : r = (⟨ks, bh, bt⟩, c)) :
  Ends [] (.tup [BkN r.1, Int' r.2]) [] h n (.tup [.agg [.own i 0 ks.length, Int' bh, Int' bt], Int' c]) := ends_book2 ks (own_shown ks hi) e
theorem book_Preempt (b : S.Book) (who key : Int) : C Tryz.prog 154 [Bk b, Int' who, Int' key] (.tup [BkN (S.preempt b who key).1, Int' (S.preempt b who key).2]) [] := by
 by_cases h : S.ready b who = 0
 ·obtain ⟨⟨x0, x1, x2, hk⟩, hw, hc⟩ := ready_shape h;obtain ⟨xs, bh, bt⟩ := b;simp only at hk;subst hk
  have hr : S.preempt ⟨[x0, x1, x2], bh, bt⟩ who key = if key < 1 \/ 9 < key then (S.Book.zero, 3) else if S.Book.key ⟨[x0, x1, x2], bh, bt⟩ who = 0 then (S.Book.zero, 8) else
    (⟨S.struck [x0, x1, x2] who key, if 0 <= bh /\ bh ≠ who /\ S.Book.key ⟨[x0, x1, x2], bh, bt⟩ bh = key then who else bh, bt⟩, 0) := by
   unfold S.preempt;rw [if_neg (by simp [h])]
  generalize S.preempt ⟨[x0, x1, x2], bh, bt⟩ who key = r at hr ⊢;replace hr := hid hr;have hready := hid (book_ready_ok ⟨[x0, x1, x2], bh, bt⟩ who h)
  have hbh : bh = -1 \/ bh = 0 \/ bh = 1 \/ bh = 2 := by
   unfold S.checkBook at hc;split at hc; · cases hc
   split at hc; · cases hc
   split at hc
   ·cases hc
   ·rename_i a3;have a4 : ¬ (bh < -1 \/ 3 <= bh \/ bt < 0 \/ 4 < bt) := a3;omega
  clear h hc;obtain ⟨w0, hw0⟩ : ∃ w, w = who := ⟨_, rfl⟩;obtain ⟨b0, hb0⟩ : ∃ w, w = bh := ⟨_, rfl⟩;rcases hw with rfl | rfl | rfl <;> rcases hbh with rfl | rfl | rfl | rfl
  all_goals
   refine CI Tryz.func154 ?_;simp -dsimp -implicitDefEqProofs [initT];refine call_CC (hready.out) ?_;simp -dsimp -implicitDefEqProofs;refine brA_split (fun h1 => ?_) (fun h1 => ?_) <;> simp -dsimp -implicitDefEqProofs [*]
   ·exact ends_book0 (hr.out.trans (by simp at h1; rw [if_pos (by omega)]))
   refine brA_split (fun h2 => ?_) (fun h2 => ?_) <;> simp -dsimp -implicitDefEqProofs [*]
   ·exact ends_book0 (hr.out.trans (by simp at h2; rw [if_pos (by omega)]))
   refine brA_split (fun h3 => ?_) (fun h3 => ?_) <;> simp -dsimp -implicitDefEqProofs [*]
   ·exact ends_book0 (hr.out.trans (by simp at h1 h2 h3; rw [if_neg (by omega)]; simp [S.Book.key, h3]))
   simp only [decide_eq_false_iff_not] at h1 h2 h3;replace hr := hid (hr.out.trans (by rw [if_neg (by omega), if_neg (by simpa [S.Book.key] using h3)]));have hkey : key ≠ 0 := by omega
   replace h1 := hid h1;replace h2 := hid h2
   refine loop_count 37 3 (fun k h _ _ => h 4 = some ⟨25, 3, [[.nl, .at (.int .i64 0), .at (.int .i64 0)]]⟩ /\
    h 20 = some ⟨3, 1, I [if 0 < k /\ w0 ≠ 0 /\ x0 = key then 0 else x0, if 1 < k /\ w0 ≠ 1 /\ x1 = key then 0 else x1, if 2 < k /\ w0 ≠ 2 /\ x2 = key then 0 else x2]⟩ /\
    h 0 = some ⟨25, 3, [[.own 20 0 3, .at (.int .i64 (if 0 <= b0 /\ b0 < k /\ b0 ≠ w0 /\ [x0, x1, x2].getD b0.toNat 0 = key then w0 else b0)), .at (.int .i64 bt)]]⟩) _ rfl (by rfl) ?_ ?_ ?_
   ·subst hw0 hb0;simp
   ·rintro k t h m hk hci hs ⟨a4, a20, a0⟩;have e2 := hs 2 rfl;have e1 := hs 1 rfl;have e3 := hs 3 rfl;have e6 := hs 6 rfl;have e36 := hs 36 rfl;clear hs;simp -dsimp -implicitDefEqProofs at e1 e2 e3 e6 e36;obtain rfl | rfl | rfl : k = 0 \/ k = 1 \/ k = 2 := by omega
    all_goals
     subst hw0 hb0;simp at a20 a0 hci;simp -dsimp -implicitDefEqProofs [*];repeat' (refine brA_split (fun g => ?_) (fun g => ?_) <;> simp -dsimp -implicitDefEqProofs [*])
     all_goals
      clear hready hr a0 a20 a4 e1 e2 e3 e6 e36 hci h1 h2;simp only [decide_eq_true_eq, decide_eq_false_iff_not] at *;try grind
   ·rintro t h m hci hs ⟨a4, a20, a0⟩;have e3 := hs 3 rfl;have e6 := hs 6 rfl;have e36 := hs 36 rfl;clear hs;simp -dsimp -implicitDefEqProofs at e3 e6 e36;subst hw0 hb0;have b20 := hid a20;simp at a20 a0 hci;simp -dsimp -implicitDefEqProofs [*];refine ends_own [_, _, _] b20.out (hr.out.trans ?_);simp [S.struck, S.Book.key]
 ·refine CI Tryz.func154 ?_;simp -dsimp -implicitDefEqProofs [initT];refine call_CC ((book_ready_bad b who h)) ?_;simp -dsimp -implicitDefEqProofs [h];exact ends_book0 (by unfold S.preempt; rw [if_pos h])
abbrev within (lo hi x : Int) : Bool := decide (lo <= x) && decide (x <= hi)
theorem ref_all (xs : List Int) (lo hi : Int) (hlen : xs.length <= 100000000) : C Tryz.prog 116 [.lst false 1 (I xs), Int' lo, Int' hi] (Bool' (xs.all (within lo hi))) [] := by
 refine CI Tryz.func116 ?_;simp -dsimp -implicitDefEqProofs [initT];refine loop_count 11 xs.length (fun k h _ _ => h = _ /\ Hid (∀ j, j < k -> (!within lo hi (xs.getD j 0)) = false)) _ rfl (by rfl) ⟨rfl, by intro j hj; omega⟩ ?_ ?_
 ·rintro k t h m hk hci hs ⟨rfl, hb⟩;have e1 := hs 1 rfl;have e2 := hs 2 rfl;have e9 := hs 9 rfl;have e10 := hs 10 rfl;clear hs;simp -dsimp -implicitDefEqProofs at e1 e2 e9 e10;have hw : IntKind.i64.wrap ((k : Int) + 1) = (k : Int) + 1 := wrap_ok (by omega);have hlt : decide (k < xs.length) = true := by simp; exact hk
  obtain ⟨x, hx⟩ : ∃ x, xs[k]? = some x := ⟨xs[k], by simp⟩;replace hk := hid hk;simp -dsimp -implicitDefEqProofs [*];refine call_CC ((ref_in x lo hi)) ?_;by_cases g : within lo hi x = true
  ·simp -dsimp -implicitDefEqProofs [*]
   exact hid fun j hj => by
    have := below_succ (p := fun x => !within lo hi x) (b := false) hb.out hx (by show (!within lo hi x) = false; rw [g]; rfl) j hj;simpa using this
  ·have g' : within lo hi x = false := by simpa using g
   simp -dsimp -implicitDefEqProofs [*];refine ends_bool ?_;symm
   rw [List.all_eq_false];exact ⟨x, List.mem_of_getElem? hx, g⟩
 ·rintro t h m hci hs ⟨rfl, hb⟩;have e9 := hs 9 rfl;have e10 := hs 10 rfl;clear hs;simp -dsimp -implicitDefEqProofs at e9 e10;simp -dsimp -implicitDefEqProofs [*];refine ends_bool ?_;symm
  rw [List.all_eq_true];intro x hx;obtain ⟨j, hj⟩ := List.mem_iff_getElem?.1 hx;have := hb.out j (List.getElem?_eq_some_iff.1 hj).1;simpa [hj] using this
theorem ref_Might (x0 x1 x2 bh bt who : Int) (write : Bool) (hw : who = 0 \/ who = 1 \/ who = 2) (hc : S.checkBook ⟨[x0, x1, x2], bh, bt⟩ = 0) : C Tryz.prog 131 [Bk ⟨[x0, x1, x2], bh, bt⟩, Int' who, Bool' write] (Bool' (S.might ⟨[x0, x1, x2], bh, bt⟩ who write)) [] := by
 have a4 : ¬ (bh < -1 \/ 3 <= bh \/ bt < 0 \/ 4 < bt) /\ ¬ ((bh < 0 /\ bt ≠ 0) \/ (0 <= bh /\ (bt = 0 \/ S.Book.key ⟨[x0, x1, x2], bh, bt⟩ bh = 0))) /\ 0 <= x0 /\ 0 <= x1 /\ 0 <= x2 := by
  unfold S.checkBook at hc;split at hc; · cases hc
  split at hc; · cases hc
  rename_i a2;split at hc; · cases hc
  rename_i a3;split at hc; · cases hc
  rename_i a4;refine ⟨a3, a4, ?_⟩;simp [S.badKey] at a2;omega
 obtain ⟨a5, a6, p0, p1, p2⟩ := a4;replace a6 := hid a6;replace hc := hid hc;rcases hw with rfl | rfl | rfl
 all_goals
  cases write
  all_goals
   refine CI Tryz.func131 ?_;simp -dsimp -implicitDefEqProofs [initT];repeat' (refine brA_split (fun g => ?_) (fun g => ?_) <;> simp -dsimp -implicitDefEqProofs [*])
   all_goals
    refine ends_bool ?_;have := a6.out;clear a6 hc;simp at *;simp [S.might, S.Book.key];try grind
theorem ref_CheckBook (b : S.Book) : C Tryz.prog 161 [Bk b] (Int' (S.checkBook b)) [] := by
 obtain ⟨xs, bh, bt⟩ := b;by_cases hl : xs.length = 3
 ·obtain ⟨x0, x1, x2, rfl⟩ : ∃ x0 x1 x2, xs = [x0, x1, x2] := by
   match xs, hl with
   | [x0, x1, x2], _ => exact ⟨x0, x1, x2, rfl⟩
  have key : S.checkBook ⟨[x0, x1, x2], bh, bt⟩ = if ([x0, x1, x2].all (within 0 9)) = false then 3 else if bh < -1 \/ 3 <= bh \/ bt < 0 \/ 4 < bt then 3 else if (bh < 0 /\ bt ≠ 0) \/ (0 <= bh /\ (bt = 0 \/ [x0, x1, x2].getD bh.toNat 0 = 0)) then 4 else 0 := by
   unfold S.checkBook;rw [if_neg (by simp)];by_cases g : [x0, x1, x2].any S.badKey = true
   ·rw [if_pos g, if_pos (by simp [S.badKey] at g ⊢; omega)]
   ·rw [if_neg g];symm
    rw [if_neg (by simp [S.badKey] at g ⊢; omega)];rfl
  obtain ⟨r, hr⟩ : ∃ r, r = S.checkBook ⟨[x0, x1, x2], bh, bt⟩ := ⟨_, rfl⟩;rw [<- hr];replace hr := hid (hr.trans key);clear key;refine CI Tryz.func161 ?_;simp -dsimp -implicitDefEqProofs [initT];refine call_C (ref_all [x0, x1, x2] 0 9 (by simp)) rfl (Or.inr (by rfl)) (Nat.le_of_ble_eq_true rfl) ?_;obtain ⟨al, hal⟩ : ∃ al, al = [x0, x1, x2].all (within 0 9) := ⟨_, rfl⟩;rw [<- hal];rw [<- hal] at hr;clear hal;cases al
  ·simp -dsimp -implicitDefEqProofs;exact ends_int (by rw [hr.out]; rfl)
  simp -dsimp -implicitDefEqProofs;refine call_CC ((ref_in bh (-1) 2)) ?_;by_cases g1 : within (-1) 2 bh = true
  rotate_left
  ·have g1' : within (-1) 2 bh = false := by simpa using g1
   simp -dsimp -implicitDefEqProofs [g1'];exact ends_int (by rw [hr.out]; simp at g1'; simp; omega)
  have g1' := g1;simp only [within] at g1';obtain ⟨b0, hb0⟩ : ∃ b0, b0 = bh := ⟨_, rfl⟩;have c1 : bh = -1 \/ bh = 0 \/ bh = 1 \/ bh = 2 := by simp at g1'; omega
  clear g1 g1';rcases c1 with rfl | rfl | rfl | rfl
  all_goals
   simp -dsimp -implicitDefEqProofs;refine call_CC ((ref_in bt 0 4)) ?_;simp -dsimp -implicitDefEqProofs;repeat' (refine brA_split (fun g => ?_) (fun g => ?_) <;> simp -dsimp -implicitDefEqProofs [*])
   all_goals
    refine ends_int ?_;rw [hr.out];clear hr;simp at *;try grind
 ·refine CI Tryz.func161 ?_;simp -dsimp -implicitDefEqProofs [initT];have hd : decide ((xs.length : Int) = 3) = false := decide_eq_false (by omega);simp -dsimp -implicitDefEqProofs [hd];exact ends_int (by unfold S.checkBook; rw [if_pos hl])
theorem good_ready {b : S.Book} (h : S.checkBook b = 0) {w : Int} (hw : w = 0 \/ w = 1 \/ w = 2) : S.ready b w = 0 := by
 unfold S.ready;rw [if_neg (by simp [h]), if_neg (by omega)]
def S.move (q : Int) (b : S.Book) (w n : Int) : S.Book × Int :=
 if q = 0 then S.register b w n else if q = 1 then S.reserve b w n else if q = 2 then S.release b w else if q = 3 then S.preempt b w n else S.clear b w
theorem check_iff (x0 x1 x2 h t : Int) : S.checkBook ⟨[x0, x1, x2], h, t⟩ = 0 ↔ (0 <= x0 /\ x0 <= 9) /\ (0 <= x1 /\ x1 <= 9) /\ (0 <= x2 /\ x2 <= 9) /\ 0 <= t /\ t <= 4 /\
  ((h = -1 /\ t = 0) \/ (h = 0 /\ t ≠ 0 /\ x0 ≠ 0) \/ (h = 1 /\ t ≠ 0 /\ x1 ≠ 0) \/ (h = 2 /\ t ≠ 0 /\ x2 ≠ 0)) := by
 have hh : h < -1 \/ h = -1 \/ h = 0 \/ h = 1 \/ h = 2 \/ 3 <= h := by omega
 unfold S.checkBook;simp only [S.badKey, List.length_cons, List.length_nil, List.any_cons, List.any_nil, S.Book.key];rcases hh with hh | rfl | rfl | rfl | rfl | hh
 ·constructor
  ·intro g; exfalso; grind
  ·omega
 ·simp; grind
 ·simp; grind
 ·simp; grind
 ·simp; grind
 ·constructor
  ·intro g; exfalso; grind
  ·omega
theorem check_shape {b : S.Book} (h : S.checkBook b = 0) : ∃ x0 x1 x2, b = ⟨[x0, x1, x2], b.h, b.t⟩ := by
 obtain ⟨k, bh, bt⟩ := b;by_cases g : k.length = 3
 ·match k, g with
  | [x0, x1, x2], _ => exact ⟨x0, x1, x2, rfl⟩
 ·unfold S.checkBook at h; rw [if_pos g] at h; cases h
theorem move_good {b : S.Book} (hb : S.checkBook b = 0) {w : Int} (hw : w = 0 \/ w = 1 \/ w = 2) {n q : Int} (h : (S.move q b w n).2 = 0) :
  S.checkBook (S.move q b w n).1 = 0 /\ (q < 3 -> 0 <= q -> 0 <= b.h -> b.h ≠ w -> (S.move q b w n).1.h = b.h /\ (S.move q b w n).1.t = b.t) := by
 have hr := good_ready hb hw;obtain ⟨x0, x1, x2, hs⟩ := check_shape hb;obtain ⟨k, bh, bt⟩ := b;simp only [S.Book.mk.injEq, and_true] at hs;subst hs;rw [check_iff] at hb;unfold S.move at h ⊢;split at h
 ·rename_i hq; subst hq
  simp only [↓reduceIte] at h ⊢;unfold S.register at h ⊢;rw [if_neg (by simp [hr])] at h ⊢;rcases hw with rfl | rfl | rfl <;> (split at h; · cases h) <;> (rename_i g; rw [if_neg g]; split <;> (simp only [List.set_cons_zero, List.set_cons_succ, Int.toNat_zero, Int.toNat_one, show (2 : Int).toNat = 2 from rfl]; rw [check_iff]; grind))
 split at h
 ·rename_i hq; subst hq
  simp only [↓reduceIte, show ¬ (1 : Int) = 0 by omega] at h ⊢;unfold S.reserve at h ⊢;rw [if_neg (by simp [hr])] at h ⊢;rcases hw with rfl | rfl | rfl <;> (split at h; · cases h) <;> (rename_i g; rw [if_neg g]; split at h; · cases h) <;> (rename_i g2; rw [if_neg g2]; rw [check_iff]; simp [S.Book.key] at g2; grind)
 split at h
 ·rename_i hq; subst hq
  simp only [↓reduceIte, show ¬ (2 : Int) = 0 by omega, show ¬ (2 : Int) = 1 by omega] at h ⊢;unfold S.release at h ⊢;rw [if_neg (by simp [hr])] at h ⊢;rcases hw with rfl | rfl | rfl <;> (split at h; · cases h) <;> (rename_i g; rw [if_neg g]; split <;> (rw [check_iff]; simp [S.Book.key] at g; grind))
 split at h
 ·rename_i hq; subst hq
  simp only [↓reduceIte, show ¬ (3 : Int) = 0 by omega, show ¬ (3 : Int) = 1 by omega, show ¬ (3 : Int) = 2 by omega] at h ⊢;unfold S.preempt at h ⊢;rw [if_neg (by simp [hr])] at h ⊢;rcases hw with rfl | rfl | rfl <;> (split at h; · cases h) <;> (rename_i g; rw [if_neg g]; split at h; · cases h) <;> (rename_i g2; rw [if_neg g2]; refine ⟨?_, by omega⟩; simp [S.struck]; rw [check_iff]; simp [S.Book.key] at g2 ⊢; obtain ⟨_, _, _, _, _, hb⟩ := hb; rcases hb with ⟨rfl, _⟩ | ⟨rfl, _⟩ | ⟨rfl, _⟩ | ⟨rfl, _⟩ <;> simp <;> grind)
 ·rename_i q0 q1 q2 q3;simp only [q0, q1, q2, q3, ↓reduceIte] at h ⊢;unfold S.clear at h ⊢;rw [if_neg (by simp [hr])] at h ⊢;split at h
  ·cases h
  ·rename_i g;rw [if_neg g];exact ⟨by decide, by omega⟩
end Go.Proofs.YtadmfokicjjglaaGreatDoor.E
