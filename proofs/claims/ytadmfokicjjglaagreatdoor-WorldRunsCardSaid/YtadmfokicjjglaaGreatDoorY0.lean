/- Y0: Ya: zones by themselves. Wo: rows of one's own, handed out. -/
import Derived.Test.YtadmfokicjjglaaGreatDoorHd
import Derived.Test.YtadmfokicjjglaaGreatDoorSp
import Derived.Test.YtadmfokicjjglaaGreatDoorX3
namespace Go.Proofs.YtadmfokicjjglaaGreatDoor.E
open Go.RowKit Go.Proofs
set_option maxRecDepth 100000
set_option maxHeartbeats 1000000
set_option linter.unusedSimpArgs false
abbrev zoneC (fr : Bool) (z : S.Zone) : List AV := [.at (.int .i64 z.st), .lst fr 1 (I z.d)]
theorem idx_at {α : Type} {p : α -> Bool} : ∀ {xs : List α} {k : Nat} {x : α}, (∀ (j : Nat) (y : α), j < k -> xs[j]? = some y -> p y = false) -> xs[k]? = some x -> p x = true -> S.idx p xs = (k : Int)
 | [], k, x, _, hx, _ => by simp at hx
 | y :: xs, k, x, h, hx, hp => by
  unfold S.idx;cases k with
  | zero => cases hx; rw [if_pos hp]; rfl
  | succ k =>
   have hy := h 0 y (by omega) rfl;have ih := idx_at (xs := xs) (k := k) (x := x) (fun j z hj hz => h (j + 1) z (by omega) (by simpa using hz)) (by simpa using hx) hp;rw [if_neg (by simp [hy]), ih, if_neg (by omega)];omega
theorem idx_none {α : Type} {p : α -> Bool} : ∀ {xs : List α}, (∀ (j : Nat) (y : α), j < xs.length -> xs[j]? = some y -> p y = false) -> S.idx p xs = -1
 | [], _ => rfl
 | y :: xs, h => by
  unfold S.idx;rw [if_neg (by simp [h 0 y (by simp) rfl]), if_pos];rw [idx_none fun j z hj hz => h (j + 1) z (by simpa using hj) (by simpa using hz)];decide
theorem idx_any {α : Type} {p : α -> Bool} : ∀ (xs : List α), decide (0 <= S.idx p xs) = xs.any p
 | [] => rfl
 | x :: xs => by
  have ih := idx_any (p := p) xs;unfold S.idx;rw [List.any_cons];by_cases h : p x = true
  ·rw [if_pos h, h]; rfl
  ·rw [if_neg h, Bool.not_eq_true] at *;rw [h, Bool.false_or, <- ih];by_cases g : S.idx p xs < 0
   ·rw [if_pos g, decide_eq_false (by omega), decide_eq_false (by omega)]
   ·rw [if_neg g, decide_eq_true (by omega), decide_eq_true (by omega)]
theorem idx_spec {α : Type} {p : α -> Bool} : ∀ (xs : List α), S.idx p xs = -1 \/ ∃ (k : Nat) (x : α), S.idx p xs = (k : Int) /\ xs[k]? = some x /\ p x = true
 | [] => Or.inl rfl
 | x :: xs => by
  unfold S.idx;by_cases h : p x = true
  ·rw [if_pos h]; exact Or.inr ⟨0, x, rfl, rfl, h⟩
  ·rw [if_neg h];rcases idx_spec (p := p) xs with e | ⟨k, y, e, h1, h2⟩
   ·rw [e, if_pos (by decide)]; exact Or.inl rfl
   ·rw [e, if_neg (by omega)];exact Or.inr ⟨k + 1, y, by omega, by simpa using h1, h2⟩
theorem indexFunc_int (p : Int -> Bool) (f : FuncId) (xs : List Int) (hlen : xs.length <= maxLen) (hf : ∀ x, C Tryz.prog f [Int' x] (Bool' (p x)) []) : C Tryz.prog 238 [.lst false 1 (I xs), .fn f []] (Int' (S.idx p xs)) [] := by
 unfold maxLen at hlen;refine CI Tryz.func238 ?_;refine rN ?_;refine loop_count 8 xs.length (fun k _ m _ => Hid (∀ (j : Nat) (y : Int), j < k -> xs[j]? = some y -> p y = false)) _ rfl (by rfl) (by intro j y hj; omega) ?_ ?_
 ·rintro k t h m hk hci hs hb;have hw : IntKind.i64.wrap ((k : Int) + 1) = (k : Int) + 1 := wrap_ok (by omega);obtain ⟨x, hx⟩ : ∃ x, xs[k]? = some x := ⟨xs[k], by simp⟩;have hk' : decide (k < xs.length) = true := by simp [hk]
  have e0 := hs 0 rfl;have e1 := hs 1 rfl;have e7 := hs 7 rfl;clear hs;simp -dsimp -implicitDefEqProofs at e0 e1 e7;replace hk := hid hk;have hc := hid (hf x);clear hf;refine rD (aN e0 (aN e1 (aN e7 (aN hci (aN hk' hx))))) hc.out ?_;refine rN ?_;cases hp : p x
  ·refine rS (aN hw (aN hci (aN e0 (aN e1 e7)))) ?_;exact upto_succ hb.out hx hp
  ·refine rN ?_;exact ends_int (idx_at hb.out hx hp).symm
 ·rintro t h m hci hs hb;have e0 := hs 0 rfl;have e1 := hs 1 rfl;have e7 := hs 7 rfl;clear hs;simp -dsimp -implicitDefEqProofs at e0 e1 e7;refine rS (aN e0 (aN e1 (aN e7 hci))) ?_;exact ends_int (idx_none hb.out).symm
theorem containsFunc_int (p : Int -> Bool) (f : FuncId) (xs : List Int) (hf : ∀ x, C Tryz.prog f [Int' x] (Bool' (p x)) []) : C Tryz.prog 229 [.lst false 1 (I xs), .fn f []] (Bool' (xs.any p)) [] := by
 refine C_real (fun _ _ => by kernel_rfl) rfl rfl fun hr => ?_
 have hx := (hr.get (j := 0) rfl).len;rw [I_length] at hx;refine CI Tryz.func229 ?_;refine rC (indexFunc_int p f xs hx hf) ?_;refine rN ?_;exact ends_bool (idx_any xs)
theorem slices_Index (xs : List Int) (v : Int) (hlen : xs.length <= maxLen) : C Tryz.prog 237 [.lst false 1 (I xs), Int' v] (Int' (S.idx (fun x => decide (x = v)) xs)) [] := by
 unfold maxLen at hlen;refine CI Tryz.func237 ?_;refine rN ?_;refine loop_count 8 xs.length (fun k _ m _ => Hid (∀ (j : Nat) (y : Int), j < k -> xs[j]? = some y -> decide (y = v) = false)) _ rfl (by rfl) (by intro j y hj; omega) ?_ ?_
 ·rintro k t h m hk hci hs hb;have hw : IntKind.i64.wrap ((k : Int) + 1) = (k : Int) + 1 := wrap_ok (by omega);obtain ⟨x, hx⟩ : ∃ x, xs[k]? = some x := ⟨xs[k], by simp⟩;have hk' : decide (k < xs.length) = true := by simp [hk]
  have e0 := hs 0 rfl;have e1 := hs 1 rfl;have e7 := hs 7 rfl;clear hs;simp -dsimp -implicitDefEqProofs at e0 e1 e7;replace hk := hid hk;refine rS (aN e0 (aN e1 (aN e7 (aN hci (aN hk' hx))))) ?_;refine brA_split (fun hp => ?_) (fun hp => ?_)
  ·refine rN ?_;simp at hp;exact ends_int (idx_at (p := fun y => decide (y = v)) hb.out hx (by simp [hp])).symm
  ·simp at hp;refine rS (aN hw (aN hci (aN e0 (aN e1 e7)))) ?_;intro j y hj hy;have := upto_succ (p := fun y => decide (y = v) = false) hb.out hx (by simp; exact fun e => hp e.symm) j y hj hy;simpa using this
 ·rintro t h m hci hs hb;have e0 := hs 0 rfl;have e1 := hs 1 rfl;have e7 := hs 7 rfl;clear hs;simp -dsimp -implicitDefEqProofs at e0 e1 e7;refine rS (aN e0 (aN e1 (aN e7 hci))) ?_;exact ends_int (idx_none hb.out).symm
theorem slices_Contains (xs : List Int) (v : Int) : C Tryz.prog 226 [.lst false 1 (I xs), Int' v] (Bool' (xs.any fun x => decide (x = v))) [] := by
 refine C_real (fun _ _ => by kernel_rfl) rfl rfl fun hr => ?_
 have hx := (hr.get (j := 0) rfl).len;rw [I_length] at hx;refine CI Tryz.func226 ?_;refine rC (slices_Index xs v hx) ?_;refine rN ?_;exact ends_bool (idx_any xs)
theorem zone_bad (x : Int) : C Tryz.prog 230 [Int' x] (Bool' (S.bad x)) [] := by
 refine CI Tryz.func230 ?_;refine rN ?_;exact ends_bool rfl
theorem zone_Check (z : S.Zone) : C Tryz.prog 208 [.agg (zoneC false z)] (Int' (S.checkZone z)) [] := by
 obtain ⟨st, xs⟩ := z;obtain ⟨r, hr⟩ : ∃ r, S.checkZone ⟨st, xs⟩ = r := ⟨_, rfl⟩;rw [hr];unfold S.checkZone at hr;replace hr := hid hr;refine CI Tryz.func208 ?_;refine rN ?_;refine brA_split (fun h1 => ?_) (fun h1 => ?_)
 ·refine rN ?_;exact ends_int (by simp at h1; rw [<- hr.out, if_pos h1])
 simp at h1;refine rN ?_;refine brA_split (fun h2 => ?_) (fun h2 => ?_)
 ·refine rN ?_;exact ends_int (by simp at h2; rw [<- hr.out, if_neg (by simp; omega), if_pos (by simp; omega)])
 simp at h2;have h2 : xs.length <= 8 := by omega
 refine rN ?_;refine loop_count 21 xs.length (fun k h _ _ => h = _ /\ Hid (∀ j, j < k -> S.bad (xs.getD j 0) = false)) _ rfl (by rfl) ⟨rfl, by intro j hj; omega⟩ ?_ ?_
 ·rintro k t h m hk hci hs ⟨rfl, hb⟩;have hw : IntKind.i64.wrap ((k : Int) + 1) = (k : Int) + 1 := wrap_ok (by omega);obtain ⟨x, hx⟩ : ∃ x, xs[k]? = some x := ⟨xs[k], by simp⟩;have hk' : decide (k < xs.length) = true := by simp [hk]
  have e1 := hs 1 rfl;have e19 := hs 19 rfl;have e20 := hs 20 rfl;clear hs;simp -dsimp -implicitDefEqProofs at e1 e19 e20;refine rS (aN hci (aN e1 (aN e19 (aN e20 (aN hk' hx))))) ?_;refine brA_split (fun g1 => ?_) (fun g1 => ?_)
  ·refine rN ?_;exact ends_int (by rw [<- hr.out, if_neg (by simp; omega), if_neg (by simp; omega), if_pos (any_of hx (by simpa [S.bad] using g1))])
  refine rS (aN hw (aN hci (aN e1 (aN e19 e20)))) ?_;exact below_succ hb.out hx (by simpa [S.bad] using g1)
 ·rintro t h m hci hs ⟨rfl, hb⟩;have hba := any_none hb.out;have e1 := hs 1 rfl;have e19 := hs 19 rfl;have e20 := hs 20 rfl;clear hs;simp -dsimp -implicitDefEqProofs at e1 e19 e20;refine rS (aN e1 (aN e19 (aN e20 hci))) ?_;refine brA_split (fun g1 => ?_) (fun g1 => ?_)
  ·refine rN ?_;exact ends_int (by rw [<- hr.out, if_neg (by simp; omega), if_neg (by simp; omega), if_neg (by simp [hba]), if_pos (by simp at g1; grind)])
  ·refine rN ?_;exact ends_int (by rw [<- hr.out, if_neg (by simp; omega), if_neg (by simp; omega), if_neg (by simp [hba]), if_neg (by simp at g1; grind)])
theorem zone_Same (a b : S.Zone) : C Tryz.prog 158 [.agg (zoneC false a), .agg (zoneC false b)] (Bool' (decide (a = b))) [] := by
 refine CI Tryz.func158 ?_;refine rN ?_;refine guardC_C (int_equal a.d b.d) (by first | rfl | (simp -dsimp -implicitDefEqProofs; done)) (by first | exact Or.inr (by rfl) | exact Or.inl (by rfl)) ?_;refine rN ?_;exact ends_eq (by cases a; cases b; simp)
theorem ref_SameZone (a b : S.Zone) : C Tryz.prog 149 [.agg (zoneC false a), .agg (zoneC false b)] (Bool' (decide (a = b))) [] := by
 refine CI Tryz.func149 ?_;refine rN ?_;refine guardC_C (int_equal a.d b.d) (by first | rfl | (simp -dsimp -implicitDefEqProofs; done)) (by first | exact Or.inr (by rfl) | exact Or.inl (by rfl)) ?_;refine rN ?_;exact ends_eq (by cases a; cases b; simp)
set_option linter.unusedVariables false
def unfr : AV -> AV
 | .lst _ s rows => .lst false s rows
 | a => a
theorem plain_rows {h : Heap} {rows : List (List AV)} (hp : ∀ r, r ∈ rows -> r.all plainCell = true) : rows.mapM (fun (r : List AV) => r.mapM (leafP h [] 2)) = some (rows.map fun r => r.map unfr) :=
 mapM_mem fun r hr => mapM_mem fun c hc => by
  have := List.all_eq_true.1 (hp r hr) c hc;cases c <;> simp [plainCell] at this <;> rfl
theorem ends_agg {h : Heap} {n : Nat} {cells target : List AV} (ho : OutL h cells target) : Ends [] (.agg target) [] h n (.agg cells) := by
 obtain ⟨cells', ho, hs⟩ := ho;refine ⟨⟨.agg cells', ?_, .one (.agg hs)⟩, rfl⟩;show (cells.mapM (outLeaf h [])).map AV.agg = _;rw [ho]; rfl
theorem own_plain {h : Heap} {i n : Nat} {ty : TypeId} {s : Nat} {rows : List (List AV)} (hi : h i = some ⟨ty, s, rows⟩) (hn : n = rows.length) (hp : ∀ r, r ∈ rows -> r.all plainCell = true) :
  outLeaf h [] (.own i 0 n) = some (.lst (rows.all fun r => r.all freshCell) s (rows.map fun r => r.map unfr)) := by
 subst hn
 have e2 : leafP h [] 3 (.own i 0 rows.length) = some (.lst false s (rows.map fun r => r.map unfr)) := by
  show (match h i with | some e => if 0 + rows.length <= e.rows.length then (((e.rows.drop 0).take rows.length).mapM fun (r : List AV) => r.mapM (leafP h [] 2)).map (AV.lst false e.s ·) else none | none => none) = _;rw [hi];simp only [List.drop_zero];rw [if_pos (by simp), List.take_of_length_le (by simp), plain_rows hp];rfl
 show (match h i, leafP h [] 3 (.own i 0 rows.length) with | some e, some (.lst _ s rows) => some (AV.lst (e.rows.all fun r => r.all freshCell) s rows) | _, _ => none) = _;rw [hi, e2]
def OwnR (no : List Nat) (s : Nat) (h : Heap) (v : AV) (ty : TypeId) (z : Nat) (rows : List (List AV)) : Prop :=
 (v = .nl /\ rows = []) \/ ∃ i, v = .own i 0 rows.length /\ i ∉ no /\ i < s /\ h i = some ⟨ty, z, rows⟩
theorem OwnR.out {no : List Nat} {s z : Nat} {h : Heap} {v : AV} {ty : TypeId} {α : Type} {f : α -> List AV} {xs : List α} (g : OwnR no s h v ty z (xs.map f)) (hp : ∀ x, (f x).all plainCell = true) (hu : ∀ x, (f x).map unfr = f x) : ∃ v', outLeaf h [] v = some v' /\ SubF v' (.lst false z (xs.map f)) := by
 rcases g with ⟨rfl, e⟩ | ⟨i, rfl, -, -, hi⟩
 ·rw [e]; exact ⟨.nl, rfl, .nl⟩
 ·have ho := own_plain hi rfl (fun r hr => by obtain ⟨x, _, rfl⟩ := List.mem_map.1 hr; exact hp x)
  have e1 : (xs.map f).map (fun r => r.map unfr) = xs.map f := by
   rw [List.map_map];exact List.map_congr_left fun x _ => hu x
  rw [e1] at ho;exact ⟨_, ho, .lst (fun h => by cases h) (SubR.refl _)⟩
theorem OwnR.mono {no no' : List Nat} {s s' z : Nat} {h h' : Heap} {v : AV} {ty : TypeId} {rows : List (List AV)} (g : OwnR no s h v ty z rows) (hh : ∀ i, i < s -> i ∉ no -> h' i = h i) (hs : s <= s') (hn : ∀ x, x ∈ no' -> x ∈ no \/ s <= x) : OwnR no' s' h' v ty z rows := by
 rcases g with g | ⟨i, g1, g2, g3, g4⟩
 ·exact .inl g
 ·refine .inr ⟨i, g1, fun hx => ?_, by omega, by rw [hh i g3 g2]; exact g4⟩;rcases hn i hx with q | q
  ·exact g2 q
  ·omega
theorem ends_ali {h : Heap} {n : Nat} {c1 t1 : List AV} {c t : AV} {e e' : Int} (h1 : OutL h c1 t1) (h2 : OutL h [c] [t]) (he : e = e') : Ends [] (.tup [.agg t1, t, Int' e']) [] h n (.tup [.agg c1, c, Int' e]) := by
 subst he;obtain ⟨c1', o1, s1⟩ := h1;obtain ⟨c2', o2, s2⟩ := h2
 have e1 : outAgg h [] (.agg c1) = some (.agg c1') := by
  show (c1.mapM (outLeaf h [])).map AV.agg = _;rw [o1]; rfl
 obtain ⟨z, rest, hz, hr, rfl⟩ := mapM_inv o2;simp at hr;subst hr
 have e2 : outAgg h [] c = some z := by
  unfold outAgg;split
  ·simp [outLeaf] at hz
  ·exact hz
 refine ⟨⟨.tup [.agg c1', z, Int' e], ?_, .tup (.cons (.agg s1) (.cons (.leaf (s2.2 0 z t rfl rfl)) (.cons (.refl _) (.nil _))))⟩, rfl⟩;show (List.mapM (outAgg h []) [.agg c1, c, Int' e]).map AV.tup = _;rw [List.mapM_cons, e1, List.mapM_cons, e2];rfl
end Go.Proofs.YtadmfokicjjglaaGreatDoor.E
