/- M1: Mb: ref.OnBook. Mc: ref.OnBook of a right book and hand. Md: ref.OnBook: preempt; all of it. -/
import Derived.Test.YtadmfokicjjglaaGreatDoorMa
import Derived.Test.YtadmfokicjjglaaGreatDoorL1
import Derived.Test.YtadmfokicjjglaaGreatDoorX3
namespace Go.Proofs.YtadmfokicjjglaaGreatDoor.E
open Go.RowKit Go.Proofs
set_option maxRecDepth 100000
set_option maxHeartbeats 2000000
set_option linter.unusedSimpArgs false
set_option linter.unusedVariables false
theorem hooks27 {c : Code} (hb : Tryz.f130.body = some c) : hookAll Tryz.prog Tryz.f130.ntmps 7 hook7 c := by
 injection hb with hb
 subst hb;simp [hookAll];exact hook7_ok (by decide) (by kernel_rfl)
def onBook (b : S.Book) (kind who n : Int) : S.Book × Int :=
 if kind = 8 then S.register b who n else if kind = 9 then S.reserve b who n else if kind = 10 then S.release b who else if kind = 11 then S.preempt b who n else S.clear b who
theorem onBook_bad {b : S.Book} {kind who n : Int} (h : S.ready b who ≠ 0) : onBook b kind who n = (S.Book.zero, S.ready b who) := by
 unfold onBook S.register S.reserve S.release S.preempt S.clear;simp [h]
theorem ref_OnBook_bad (b : S.Book) (kind who n : Int) (h : S.ready b who ≠ 0) : C Tryz.prog 130 [Bk b, Int' kind, Int' who, Int' n] (.tup [BkN (onBook b kind who n).1, Int' (onBook b kind who n).2]) [] := by
 rw [onBook_bad h];obtain ⟨e, he⟩ : ∃ e, S.checkBook b = e := ⟨_, rfl⟩;have hc := hid (he ▸ ref_CheckBook b);by_cases h1 : e = 0
 ·subst h1
  have hr : S.ready b who = 5 := by
   unfold S.ready at h ⊢;rw [if_neg (by simp [he])] at h ⊢;split at h
   ·rename_i hw; rw [if_pos hw]
   ·exact absurd rfl h
  have hw : (decide (0 <= who) && decide (who <= 2)) = false := by
   unfold S.ready at hr;rw [if_neg (by simp [he])] at hr;split at hr
   ·simp; omega
   ·cases hr
  rw [hr];clear h he hr;refine C_inlineH [] 7  hook7 [] Tryz.func130 (fun _ _ => by kernel_rfl) rfl (by kernel_rfl) ( hooks27 rfl) (by rfl) (by decide) (by rfl) (by rfl) (by rfl) ?_;refine rC hc.out ?_;refine rC (ref_in who 0 2) ?_;refine rS hw ?_;refine CSI Tryz.func160 ?_;refine rN ?_;exact ends_book0 rfl
 ·have hr : S.ready b who = e := by
   unfold S.ready;rw [if_pos (by rw [he]; exact h1), he]
  rw [hr];clear h he hr;refine C_inlineH [] 7  hook7 [] Tryz.func130 (fun _ _ => by kernel_rfl) rfl (by kernel_rfl) ( hooks27 rfl) (by rfl) (by decide) (by rfl) (by rfl) (by rfl) ?_;refine rC hc.out ?_;refine rS h1 ?_;refine CSI Tryz.func160 ?_;refine rN ?_;exact ends_book0 rfl
theorem ready_in {who : Int} (hw : who = 0 \/ who = 1 \/ who = 2) : (decide (0 <= who) && decide (who <= 2)) = true := by
 rcases hw with rfl | rfl | rfl <;> rfl
theorem in_yes {n a b : Int} (h : ¬ (n < a \/ b < n)) : (decide (a <= n) && decide (n <= b)) = true := by simp; omega
theorem in_no {n a b : Int} (h : n < a \/ b < n) : (decide (a <= n) && decide (n <= b)) = false := by simp; omega
theorem ref_OnBook_8 (b : S.Book) (who n : Int) (h : S.ready b who = 0) : C Tryz.prog 130 [Bk b, Int' 8, Int' who, Int' n] (.tup [BkN (S.register b who n).1, Int' (S.register b who n).2]) [] := by
 obtain ⟨⟨x0, x1, x2, hk⟩, hw, hc⟩ := ready_shape h;obtain ⟨xs, bh, bt⟩ := b;simp only at hk;subst hk;have cc := hid (hc ▸ ref_CheckBook ⟨[x0, x1, x2], bh, bt⟩)
 have hr : S.register ⟨[x0, x1, x2], bh, bt⟩ who n = if n < 0 \/ 9 < n then (S.Book.zero, 3) else if n = 0 /\ bh = who then (⟨[x0, x1, x2].set who.toNat n, -1, 0⟩, 0) else (⟨[x0, x1, x2].set who.toNat n, bh, bt⟩, 0) := by
  unfold S.register;rw [if_neg (by simp [h])]
 generalize S.register ⟨[x0, x1, x2], bh, bt⟩ who n = r at hr ⊢;replace hr := hid hr;have hin := ready_in hw;clear h hc;obtain ⟨w0, hw0⟩ : ∃ w, w = who := ⟨_, rfl⟩;by_cases hn : n < 0 \/ 9 < n
 ·have hn' := in_no hn;replace hn := hid hn;replace hw := hid hw;refine C_inlineH [] 7  hook7 [] Tryz.func130 (fun _ _ => by kernel_rfl) rfl (by kernel_rfl) ( hooks27 rfl) (by rfl) (by decide) (by rfl) (by rfl) (by rfl) ?_;refine rC cc.out ?_;refine rC (ref_in who 0 2) ?_;refine rS hin ?_;refine ⟨8, rfl, by omega, by omega, fun m1 m2 => ?_⟩;simp -dsimp -implicitDefEqProofs [-getElem?_pos, -List.map_append, -List.map_set, List.getElem?_cons_zero, List.getElem?_cons_succ, leastK, mostK];refine call_CC (ref_in n 0 9) ?_;refine rS hn' ?_;refine CSI Tryz.func160 ?_;refine rN ?_;exact ends_book0 (hr.out.trans (if_pos hn.out))
 have hn' := in_yes hn;replace hr := hid (hr.out.trans (if_neg hn));clear hn;rcases hw with rfl | rfl | rfl
 all_goals
  by_cases c1 : n = 0
  ·by_cases c2 : bh = w0
   ·subst hw0; subst c2; subst c1
    refine C_inlineH [] 7  hook7 [] Tryz.func130 (fun _ _ => by kernel_rfl) rfl (by kernel_rfl) ( hooks27 rfl) (by rfl) (by decide) (by rfl) (by rfl) (by rfl) ?_;refine rC cc.out ?_;refine rC (ref_in _ 0 2) ?_;refine rN ?_;refine ⟨8, rfl, by omega, by omega, fun m1 m2 => ?_⟩;simp -dsimp -implicitDefEqProofs [-getElem?_pos, -List.map_append, -List.map_set, List.getElem?_cons_zero, List.getElem?_cons_succ, leastK, mostK];refine call_CC (ref_in 0 0 9) ?_;refine rC (clone_int [x0, x1, x2] (by simp)) ?_;refine rN ?_;exact ends_book2 [_, _, _] rfl (hr.out.trans (by simp))
   ·subst hw0; subst c1
    refine C_inlineH [] 7  hook7 [] Tryz.func130 (fun _ _ => by kernel_rfl) rfl (by kernel_rfl) ( hooks27 rfl) (by rfl) (by decide) (by rfl) (by rfl) (by rfl) ?_;refine rC cc.out ?_;refine rC (ref_in _ 0 2) ?_;refine rN ?_;refine ⟨8, rfl, by omega, by omega, fun m1 m2 => ?_⟩;simp -dsimp -implicitDefEqProofs [-getElem?_pos, -List.map_append, -List.map_set, List.getElem?_cons_zero, List.getElem?_cons_succ, leastK, mostK];refine call_CC (ref_in 0 0 9) ?_;refine rC (clone_int [x0, x1, x2] (by simp)) ?_;refine rS c2 ?_;exact ends_book2 [_, _, _] rfl (hr.out.trans (by simp [c2]))
  ·subst hw0;refine C_inlineH [] 7  hook7 [] Tryz.func130 (fun _ _ => by kernel_rfl) rfl (by kernel_rfl) ( hooks27 rfl) (by rfl) (by decide) (by rfl) (by rfl) (by rfl) ?_;refine rC cc.out ?_;refine rC (ref_in _ 0 2) ?_;refine rN ?_;refine ⟨8, rfl, by omega, by omega, fun m1 m2 => ?_⟩;simp -dsimp -implicitDefEqProofs [-getElem?_pos, -List.map_append, -List.map_set, List.getElem?_cons_zero, List.getElem?_cons_succ, leastK, mostK];refine call_CC (ref_in n 0 9) ?_;refine rD hn' (clone_int [x0, x1, x2] (by simp)) ?_;refine rS c1 ?_;exact ends_book2 [_, _, _] rfl (hr.out.trans (by simp [c1]))
theorem ref_OnBook_10 (b : S.Book) (who n : Int) (h : S.ready b who = 0) : C Tryz.prog 130 [Bk b, Int' 10, Int' who, Int' n] (.tup [BkN (S.release b who).1, Int' (S.release b who).2]) [] := by
 obtain ⟨⟨x0, x1, x2, hk⟩, hw, hc⟩ := ready_shape h;obtain ⟨xs, bh, bt⟩ := b;simp only at hk;subst hk;have cc := hid (hc ▸ ref_CheckBook ⟨[x0, x1, x2], bh, bt⟩)
 have hr : S.release ⟨[x0, x1, x2], bh, bt⟩ who = if S.Book.key ⟨[x0, x1, x2], bh, bt⟩ who = 0 then (S.Book.zero, 8) else if bh = who then (⟨[x0, x1, x2], -1, 0⟩, 0) else (⟨[x0, x1, x2], bh, bt⟩, 0) := by
  unfold S.release;rw [if_neg (by simp [h])]
 generalize S.release ⟨[x0, x1, x2], bh, bt⟩ who = r at hr ⊢;replace hr := hid hr;have hin := ready_in hw
 have hbh : bh = -1 \/ bh = 0 \/ bh = 1 \/ bh = 2 := by
  unfold S.checkBook at hc;split at hc; · cases hc
  split at hc; · cases hc
  split at hc
  ·cases hc
  ·rename_i a3;have a4 : ¬ (bh < -1 \/ 3 <= bh \/ bt < 0 \/ 4 < bt) := a3;omega
 clear h hc;obtain ⟨w0, hw0⟩ : ∃ w, w = who := ⟨_, rfl⟩;clear hbh hin;rcases hw with rfl | rfl | rfl
 all_goals
  refine C_inlineH [] 7  hook7 [] Tryz.func130 (fun _ _ => by kernel_rfl) rfl (by kernel_rfl) ( hooks27 rfl) (by rfl) (by decide) (by rfl) (by rfl) (by rfl) ?_;refine rC cc.out ?_;refine rC (ref_in _ 0 2) ?_;refine rN ?_;refine ⟨10, rfl, by omega, by omega, fun m1 m2 => ?_⟩;simp -dsimp -implicitDefEqProofs [-getElem?_pos, -List.map_append, -List.map_set, List.getElem?_cons_zero, List.getElem?_cons_succ, leastK, mostK];refine brA_split (fun h1 => ?_) (fun h1 => ?_) <;> simp -dsimp -implicitDefEqProofs [-getElem?_pos, -List.map_append, -List.map_set, List.getElem?_cons_zero, List.getElem?_cons_succ, h1]
  ·refine CSI Tryz.func160 ?_;refine rN ?_;exact ends_book0 (hr.out.trans (by simp at h1; simp [S.Book.key, h1]))
  simp at h1;by_cases c2 : bh = w0
  ·subst hw0; subst c2
   refine call_CC (clone_int [x0, x1, x2] (by simp)) ?_;refine rN ?_;exact ends_book2 [_, _, _] rfl (hr.out.trans (by simp [S.Book.key, h1]))
  ·subst hw0;refine call_CC (clone_int [x0, x1, x2] (by simp)) ?_;refine rS c2 ?_;exact ends_book2 [_, _, _] rfl (hr.out.trans (by simp [S.Book.key, h1, c2]))
theorem ref_OnBook_12 (b : S.Book) (who n : Int) (h : S.ready b who = 0) : C Tryz.prog 130 [Bk b, Int' 12, Int' who, Int' n] (.tup [BkN (S.clear b who).1, Int' (S.clear b who).2]) [] := by
 obtain ⟨⟨x0, x1, x2, hk⟩, hw, hc⟩ := ready_shape h;obtain ⟨xs, bh, bt⟩ := b;simp only at hk;subst hk;have cc := hid (hc ▸ ref_CheckBook ⟨[x0, x1, x2], bh, bt⟩)
 have hr : S.clear ⟨[x0, x1, x2], bh, bt⟩ who = if S.Book.key ⟨[x0, x1, x2], bh, bt⟩ who = 0 then (S.Book.zero, 8) else (S.Book.new, 0) := by
  unfold S.clear;rw [if_neg (by simp [h])]
 generalize S.clear ⟨[x0, x1, x2], bh, bt⟩ who = r at hr ⊢;replace hr := hid hr;have hin := ready_in hw
 have hbh : bh = -1 \/ bh = 0 \/ bh = 1 \/ bh = 2 := by
  unfold S.checkBook at hc;split at hc; · cases hc
  split at hc; · cases hc
  split at hc
  ·cases hc
  ·rename_i a3;have a4 : ¬ (bh < -1 \/ 3 <= bh \/ bt < 0 \/ 4 < bt) := a3;omega
 clear h hc;obtain ⟨w0, hw0⟩ : ∃ w, w = who := ⟨_, rfl⟩;clear hbh hin;rcases hw with rfl | rfl | rfl
 all_goals
  refine C_inlineH [] 7  hook7 [] Tryz.func130 (fun _ _ => by kernel_rfl) rfl (by kernel_rfl) ( hooks27 rfl) (by rfl) (by decide) (by rfl) (by rfl) (by rfl) ?_;refine rC cc.out ?_;refine rC (ref_in _ 0 2) ?_;refine rN ?_;refine ⟨12, rfl, by omega, by omega, fun m1 m2 => ?_⟩;simp -dsimp -implicitDefEqProofs [-getElem?_pos, -List.map_append, -List.map_set, List.getElem?_cons_zero, List.getElem?_cons_succ, leastK, mostK];refine brA_split (fun h1 => ?_) (fun h1 => ?_) <;> simp -dsimp -implicitDefEqProofs [-getElem?_pos, -List.map_append, -List.map_set, List.getElem?_cons_zero, List.getElem?_cons_succ, h1]
  ·refine CSI Tryz.func160 ?_;refine rN ?_;exact ends_book0 (hr.out.trans (by simp at h1; simp [S.Book.key, h1]))
  simp at h1;refine call_CC (clone_int [x0, x1, x2] (by simp)) ?_;refine rC ref_FreshBook ?_;refine rN ?_;exact ends_book2 [_, _, _] rfl (hr.out.trans (by simp [S.Book.key, h1, S.Book.new]))
theorem ref_OnBook_9 (b : S.Book) (who n : Int) (h : S.ready b who = 0) : C Tryz.prog 130 [Bk b, Int' 9, Int' who, Int' n] (.tup [BkN (S.reserve b who n).1, Int' (S.reserve b who n).2]) [] := by
 obtain ⟨⟨x0, x1, x2, hk⟩, hw, hc⟩ := ready_shape h;obtain ⟨xs, bh, bt⟩ := b;simp only at hk;subst hk;have cc := hid (hc ▸ ref_CheckBook ⟨[x0, x1, x2], bh, bt⟩)
 have hr : S.reserve ⟨[x0, x1, x2], bh, bt⟩ who n = if n < 1 \/ 4 < n then (S.Book.zero, 3) else if S.Book.key ⟨[x0, x1, x2], bh, bt⟩ who = 0 \/ (0 <= bh /\ (bh ≠ who \/ bt ≠ n)) then (S.Book.zero, 8) else (⟨[x0, x1, x2], who, n⟩, 0) := by
  unfold S.reserve;rw [if_neg (by simp [h])]
 generalize S.reserve ⟨[x0, x1, x2], bh, bt⟩ who n = r at hr ⊢;replace hr := hid hr;have hin := ready_in hw
 have hbh : bh = -1 \/ bh = 0 \/ bh = 1 \/ bh = 2 := by
  unfold S.checkBook at hc;split at hc; · cases hc
  split at hc; · cases hc
  split at hc
  ·cases hc
  ·rename_i a3;have a4 : ¬ (bh < -1 \/ 3 <= bh \/ bt < 0 \/ 4 < bt) := a3;omega
 clear h hc;obtain ⟨w0, hw0⟩ : ∃ w, w = who := ⟨_, rfl⟩;by_cases hn : n < 1 \/ 4 < n
 ·have hn' := in_no hn;replace hn := hid hn;replace hw := hid hw;replace hbh := hid hbh;refine C_inlineH [] 7  hook7 [] Tryz.func130 (fun _ _ => by kernel_rfl) rfl (by kernel_rfl) ( hooks27 rfl) (by rfl) (by decide) (by rfl) (by rfl) (by rfl) ?_;refine rC cc.out ?_;refine rC (ref_in who 0 2) ?_;refine rS hin ?_;refine ⟨9, rfl, by omega, by omega, fun m1 m2 => ?_⟩;simp -dsimp -implicitDefEqProofs [-getElem?_pos, -List.map_append, -List.map_set, List.getElem?_cons_zero, List.getElem?_cons_succ, leastK, mostK];refine call_CC (ref_in n 1 4) ?_;refine rS hn' ?_;refine CSI Tryz.func160 ?_;refine rN ?_;exact ends_book0 (hr.out.trans (if_pos hn.out))
 have hn' := in_yes hn;replace hr := hid (hr.out.trans (if_neg hn));clear hn;clear hin;by_cases c2 : bt = n
 ·have c2' : decide (bt = n) = true := by simp [c2]
  rcases hw with rfl | rfl | rfl <;> rcases hbh with rfl | rfl | rfl | rfl
  all_goals
   subst hw0;refine C_inlineH [] 7  hook7 [] Tryz.func130 (fun _ _ => by kernel_rfl) rfl (by kernel_rfl) ( hooks27 rfl) (by rfl) (by decide) (by rfl) (by rfl) (by rfl) ?_;refine rC cc.out ?_;refine rC (ref_in _ 0 2) ?_;refine rN ?_;refine ⟨9, rfl, by omega, by omega, fun m1 m2 => ?_⟩;simp -dsimp -implicitDefEqProofs [-getElem?_pos, -List.map_append, -List.map_set, List.getElem?_cons_zero, List.getElem?_cons_succ, leastK, mostK];refine call_CC (ref_in n 1 4) ?_;refine rS hn' ?_;refine brA_split (fun h1 => ?_) (fun h1 => ?_) <;> simp -dsimp -implicitDefEqProofs [-getElem?_pos, -List.map_append, -List.map_set, List.getElem?_cons_zero, List.getElem?_cons_succ, h1]
   ·refine CSI Tryz.func160 ?_;refine rN ?_;exact ends_book0 (hr.out.trans (by simp at h1; simp [S.Book.key, h1]))
   simp at h1;refine call_CC (clone_int [x0, x1, x2] (by simp)) ?_;refine rS c2' ?_
   first
    | exact ends_book2 [_, _, _] rfl (hr.out.trans (by simp [S.Book.key, h1, c2]))
    | (refine CSI Tryz.func160 ?_
       refine rN ?_
       exact ends_book0 (hr.out.trans (by simp [S.Book.key, h1, c2])))
 ·have c2' : decide (bt = n) = false := by simp [c2]
  rcases hw with rfl | rfl | rfl <;> rcases hbh with rfl | rfl | rfl | rfl
  all_goals
   subst hw0;refine C_inlineH [] 7  hook7 [] Tryz.func130 (fun _ _ => by kernel_rfl) rfl (by kernel_rfl) ( hooks27 rfl) (by rfl) (by decide) (by rfl) (by rfl) (by rfl) ?_;refine rC cc.out ?_;refine rC (ref_in _ 0 2) ?_;refine rN ?_;refine ⟨9, rfl, by omega, by omega, fun m1 m2 => ?_⟩;simp -dsimp -implicitDefEqProofs [-getElem?_pos, -List.map_append, -List.map_set, List.getElem?_cons_zero, List.getElem?_cons_succ, leastK, mostK];refine call_CC (ref_in n 1 4) ?_;refine rS hn' ?_;refine brA_split (fun h1 => ?_) (fun h1 => ?_) <;> simp -dsimp -implicitDefEqProofs [-getElem?_pos, -List.map_append, -List.map_set, List.getElem?_cons_zero, List.getElem?_cons_succ, h1]
   ·refine CSI Tryz.func160 ?_;refine rN ?_;exact ends_book0 (hr.out.trans (by simp at h1; simp [S.Book.key, h1]))
   simp at h1;refine call_CC (clone_int [x0, x1, x2] (by simp)) ?_;refine rS c2' ?_
   first
    | exact ends_book2 [_, _, _] rfl (hr.out.trans (by simp [S.Book.key, h1, c2]))
    | (refine CSI Tryz.func160 ?_
       refine rN ?_
       exact ends_book0 (hr.out.trans (by simp [S.Book.key, h1, c2])))
set_option maxHeartbeats 4000000
theorem ref_OnBook_11 (b : S.Book) (who n : Int) (h : S.ready b who = 0) : C Tryz.prog 130 [Bk b, Int' 11, Int' who, Int' n] (.tup [BkN (S.preempt b who n).1, Int' (S.preempt b who n).2]) [] := by
 obtain ⟨⟨x0, x1, x2, hk⟩, hw, hc⟩ := ready_shape h;obtain ⟨xs, bh, bt⟩ := b;simp only at hk;subst hk;have cc := hid (hc ▸ ref_CheckBook ⟨[x0, x1, x2], bh, bt⟩)
 have hr : S.preempt ⟨[x0, x1, x2], bh, bt⟩ who n = if n < 1 \/ 9 < n then (S.Book.zero, 3) else if S.Book.key ⟨[x0, x1, x2], bh, bt⟩ who = 0 then (S.Book.zero, 8) else (⟨S.struck [x0, x1, x2] who n, if 0 <= bh /\ bh ≠ who /\ S.Book.key ⟨[x0, x1, x2], bh, bt⟩ bh = n then who else bh, bt⟩, 0) := by
  unfold S.preempt;rw [if_neg (by simp [h])]
 generalize S.preempt ⟨[x0, x1, x2], bh, bt⟩ who n = r at hr ⊢;replace hr := hid hr;have hin := ready_in hw
 have hbh : bh = -1 \/ bh = 0 \/ bh = 1 \/ bh = 2 := by
  unfold S.checkBook at hc;split at hc; · cases hc
  split at hc; · cases hc
  split at hc
  ·cases hc
  ·rename_i a3;have a4 : ¬ (bh < -1 \/ 3 <= bh \/ bt < 0 \/ 4 < bt) := a3;omega
 clear h hc;obtain ⟨w0, hw0⟩ : ∃ w, w = who := ⟨_, rfl⟩;by_cases hn : n < 1 \/ 9 < n
 ·have hn' := in_no hn;replace hn := hid hn;replace hw := hid hw;replace hbh := hid hbh;refine C_inlineH [] 7  hook7 [] Tryz.func130 (fun _ _ => by kernel_rfl) rfl (by kernel_rfl) ( hooks27 rfl) (by rfl) (by decide) (by rfl) (by rfl) (by rfl) ?_;refine rC cc.out ?_;refine rC (ref_in who 0 2) ?_;refine rS hin ?_;refine ⟨11, rfl, by omega, by omega, fun m1 m2 => ?_⟩;simp -dsimp -implicitDefEqProofs [-getElem?_pos, -List.map_append, -List.map_set, List.getElem?_cons_zero, List.getElem?_cons_succ, leastK, mostK];refine call_CC (ref_in n 1 9) ?_;refine rS hn' ?_;refine CSI Tryz.func160 ?_;refine rN ?_;exact ends_book0 (hr.out.trans (if_pos hn.out))
 have hn' := in_yes hn;replace hr := hid (hr.out.trans (if_neg hn));have hn0 : n ≠ 0 := by omega
 clear hn;clear hin;obtain ⟨b0, hb0⟩ : ∃ w, w = bh := ⟨_, rfl⟩;rcases hw with rfl | rfl | rfl <;> rcases hbh with rfl | rfl | rfl | rfl
 all_goals
  refine C_inlineH [] 7  hook7 [] Tryz.func130 (fun _ _ => by kernel_rfl) rfl (by kernel_rfl) ( hooks27 rfl) (by rfl) (by decide) (by rfl) (by rfl) (by rfl) ?_;refine rC cc.out ?_;refine rC (ref_in _ 0 2) ?_;refine rN ?_;refine ⟨11, rfl, by omega, by omega, fun m1 m2 => ?_⟩;simp -dsimp -implicitDefEqProofs [-getElem?_pos, -List.map_append, -List.map_set, List.getElem?_cons_zero, List.getElem?_cons_succ, leastK, mostK];refine call_CC (ref_in n 1 9) ?_;refine rS hn' ?_;refine brA_split (fun h1 => ?_) (fun h1 => ?_) <;> simp -dsimp -implicitDefEqProofs [-getElem?_pos, -List.map_append, -List.map_set, List.getElem?_cons_zero, List.getElem?_cons_succ, h1]
  ·refine CSI Tryz.func160 ?_;refine rN ?_;exact ends_book0 (hr.out.trans (by simp at h1; simp [S.Book.key, h1]))
  simp at h1;replace hr := hid (hr.out.trans (by rw [if_neg (by simpa [S.Book.key] using h1)]));refine call_CC (clone_int [x0, x1, x2] (by simp)) ?_;refine rN ?_;replace hn0 := hid hn0
  refine loop_count 124 3 (fun k h _ _ => h 4 = some ⟨25, 3, [[.nl, .at (.int .i64 0), .at (.int .i64 0)]]⟩ /\
   h 132 = some ⟨3, 1, I [if 0 < k /\ w0 ≠ 0 /\ x0 = n then 0 else x0, if 1 < k /\ w0 ≠ 1 /\ x1 = n then 0 else x1, if 2 < k /\ w0 ≠ 2 /\ x2 = n then 0 else x2]⟩ /\
   h 0 = some ⟨25, 3, [[.own 132 0 3, .at (.int .i64 (if 0 <= b0 /\ b0 < k /\ b0 ≠ w0 /\ [x0, x1, x2].getD b0.toNat 0 = n then w0 else b0)), .at (.int .i64 bt)]]⟩) _ rfl (by rfl) ?_ ?_ ?_
  ·subst hw0 hb0;simp
  ·rintro k t h m hk hci hs ⟨a4, a20, a0⟩;have e2 := hs 2 rfl;have e3 := hs 3 rfl;have e4 := hs 4 rfl;have e8 := hs 8 rfl;have e122 := hs 122 rfl;have e123 := hs 123 rfl;clear hs;simp -dsimp -implicitDefEqProofs at e2 e3 e4 e8 e122 e123;obtain rfl | rfl | rfl : k = 0 \/ k = 1 \/ k = 2 := by omega
   all_goals
    subst hw0 hb0;simp at a20 a0 hci;have hn0' := hn0.out;refine rS (aN e2 (aN e3 (aN e4 (aN e8 (aN e122 (aN e123 (aN hci (aN a4 (aN a20 a0))))))))) ?_;repeat' (refine brA_split (fun g => ?_) (fun g => ?_) <;> simp -dsimp -implicitDefEqProofs [-getElem?_pos, -List.map_append, -List.map_set, List.getElem?_cons_zero, List.getElem?_cons_succ, g, e2, e3, e4, e8, e122, e123, hci, a4, a20, a0])
    all_goals
     clear cc hr a0 a20 a4 hci e2 e3 e4 e8 e122 e123;simp only [decide_eq_true_eq, decide_eq_false_iff_not] at *;try grind
  ·rintro t h m hci hs ⟨a4, a20, a0⟩;have e2 := hs 2 rfl;have e3 := hs 3 rfl;have e4 := hs 4 rfl;have e8 := hs 8 rfl;have e122 := hs 122 rfl;have e123 := hs 123 rfl;clear hs;simp -dsimp -implicitDefEqProofs at e2 e3 e4 e8 e122 e123;subst hw0 hb0;have b20 := hid a20;simp at a20 a0 hci;refine rS (aN e2 (aN e3 (aN e4 (aN e8 (aN e122 (aN e123 (aN hci (aN a4 (aN a20 a0))))))))) ?_;refine ends_own [_, _, _] b20.out (hr.out.trans ?_);simp [S.struck, S.Book.key]
theorem ref_OnBook (b : S.Book) (kind who n : Int) (hk : 8 <= kind /\ kind <= 12) : C Tryz.prog 130 [Bk b, Int' kind, Int' who, Int' n] (.tup [BkN (onBook b kind who n).1, Int' (onBook b kind who n).2]) [] := by
 by_cases h : S.ready b who = 0
 ·have : kind = 8 \/ kind = 9 \/ kind = 10 \/ kind = 11 \/ kind = 12 := by omega
  rcases this with rfl | rfl | rfl | rfl | rfl
  ·exact ref_OnBook_8 b who n h
  ·exact ref_OnBook_9 b who n h
  ·exact ref_OnBook_10 b who n h
  ·exact ref_OnBook_11 b who n h
  ·exact ref_OnBook_12 b who n h
 ·exact ref_OnBook_bad b kind who n h
end Go.Proofs.YtadmfokicjjglaaGreatDoor.E
