/- R2: Qd: strings.SplitAfter at a line's end; ref.linesOf. Qe: the reference's disks: ref.linesOf to be read, ref.CheckDisk, ref.SameDisk, ref.Recovered, ref.PutOn, ref.Synced. Qf: the reference's mail and worlds: checked, compared, fresh. (ref.CheckWorld goes as world.Check.) -/
import Derived.Test.YtadmfokicjjglaaGreatDoorR1
import Derived.Test.YtadmfokicjjglaaGreatDoorQ1
import Derived.Test.YtadmfokicjjglaaGreatDoorX3
import Derived.Test.YtadmfokicjjglaaGreatDoorX4
import Derived.Test.YtadmfokicjjglaaGreatDoorX5
import Derived.Test.YtadmfokicjjglaaGreatDoorP1
import Derived.Test.YtadmfokicjjglaaGreatDoorS1
import Derived.Test.YtadmfokicjjglaaGreatDoorD2
namespace Go.Proofs.YtadmfokicjjglaaGreatDoor.E
open Go.RowKit Go.Proofs
set_option linter.unusedVariables false
set_option linter.unusedSimpArgs false
set_option maxRecDepth 100000
set_option maxHeartbeats 4000000
theorem VL.four {F : Nat -> Prop} {w : World} {a b c d : AV} {vs : List Value} (h : VL 0 noPlace F w [a, b, c, d] vs) : ∃ u v x y, vs = [u, v, x, y] /\ V 0 noPlace F w a u /\ V 0 noPlace F w b v /\ V 0 noPlace F w c x /\ V 0 noPlace F w d y := by
 obtain ⟨h1, h2⟩ := h
 match vs, h1, h2 with
 | [u, v, x, y], _, h2 => exact ⟨u, v, x, y, rfl, h2 0 _ _ rfl rfl, h2 1 _ _ rfl rfl, h2 2 _ _ rfl rfl, h2 3 _ _ rfl rfl⟩
theorem strings_genSplit (l : List UInt8) (hl : l.length <= 1000000) : C Tryz.prog 139 [Tx l, Tx [10], Int' 1, Int' (-1)] (.lst true 1 (Txs (S.after 10 l))) [] := by
 refine C_lib (fun _ _ => by kernel_rfl) rfl fun F w vs hG hv => ?_
 obtain ⟨u, v, x, y, rfl, hu, hq, hx, hy⟩ := hv.four;cases V_at hu; cases V_at hq; cases V_at hx; cases V_at hy
 obtain ⟨m, hm⟩ := glob_max hG;have hs := tx_size l;have hlen := Lib.splitB_all ⟨([10] : List UInt8).toArray⟩ (by decide) 1 _ ⟨l.toArray⟩ rfl;have hle := Lib.countB_le ⟨([10] : List UInt8).toArray⟩ (by decide) (⟨l.toArray⟩ : ByteArray).size ⟨l.toArray⟩ (Nat.le_refl _);have hd := Lib.splitB_data ⟨([10] : List UInt8).toArray⟩ 1 (Lib.countB ⟨l.toArray⟩ ⟨([10] : List UInt8).toArray⟩) ⟨l.toArray⟩;refine (Tryz.strings_genSplit ⟨l.toArray⟩ ⟨([10] : List UInt8).toArray⟩ 1 (-1) (Lib.countB ⟨l.toArray⟩ ⟨([10] : List UInt8).toArray⟩ + 1) m w (by omega) hm (by decide) (by decide) (by decide) (by decide) (by rw [if_pos (by decide)]; omega)).mono ?_;rintro e w' ⟨rfl, rfl⟩;rw [Nat.add_sub_cancel];have e2 : Lib.cellsOf (Lib.splitB ⟨([10] : List UInt8).toArray⟩ 1 (Lib.countB ⟨l.toArray⟩ ⟨([10] : List UInt8).toArray⟩) ⟨l.toArray⟩) (Lib.countB ⟨l.toArray⟩ ⟨([10] : List UInt8).toArray⟩ + 1) = ((Lib.splitB ⟨([10] : List UInt8).toArray⟩ 1 (Lib.countB ⟨l.toArray⟩ ⟨([10] : List UInt8).toArray⟩) ⟨l.toArray⟩).map Value.string).toArray := by rw [<- hlen]; exact Lib.cellsOf_full _
 rw [e2];refine ⟨_, rfl, (Below.refl _ _).alloc (Nat.le_refl _) _, ?_⟩;have := V_txs (w := w) (ss := Lib.splitB ⟨([10] : List UInt8).toArray⟩ 1 (Lib.countB ⟨l.toArray⟩ ⟨([10] : List UInt8).toArray⟩) ⟨l.toArray⟩) (cap := Lib.countB ⟨l.toArray⟩ ⟨([10] : List UInt8).toArray⟩ + 1) (w' := w.alloc (.cells ((Lib.splitB ⟨([10] : List UInt8).toArray⟩ 1 (Lib.countB ⟨l.toArray⟩ ⟨([10] : List UInt8).toArray⟩) ⟨l.toArray⟩).map Value.string).toArray 9)) (by simp) (by omega) (by simp only [maxLen]; omega) (heap_alloc_new w _) (fun j s hj => by simp [hj]);rw [hd] at this;have e3 : Lib.splitK [10] 1 (Lib.count l [10]) l = S.after 10 l := S.split_after 10 l;rw [<- e3];exact this
theorem strings_SplitAfter (l : List UInt8) (hl : l.length <= 1000000) : C Tryz.prog 106 [Tx l, Tx [10]] (.lst true 1 (Txs (S.after 10 l))) [] := by
 have h := hid (strings_genSplit l hl);refine CI Tryz.func106 ?_;refine rC h.out ?_;refine rN ?_;exact ⟨⟨_, rfl, .refl _⟩, rfl⟩
theorem suffix_in (x : List UInt8) : Lib.hasSuffix (x ++ [10]) [10] = true := by
 unfold Lib.hasSuffix;simp
theorem suffix_out {x : List UInt8} (h : (10 : UInt8) ∉ x) : Lib.hasSuffix x [10] = false := by
 cases hb : Lib.hasSuffix x [10] with
 | false => rfl
 | true =>
  unfold Lib.hasSuffix at hb;obtain ⟨t, ht⟩ := List.isSuffixOf_iff_suffix.1 hb;exact absurd (by rw [<- ht]; simp) h
def LinesAtR (ts : List (List UInt8)) (m : Nat) (h : Heap) (t7 t8 : AV) (most : Int) (k n : Nat) (q : List S.Rec × Nat × Int) : Prop :=
 ∃ (acc : List S.Rec) (rest : List UInt8) (b : Nat), S.after 10 rest = ts.drop k /\ t8 = Int' b /\ b + rest.length = n /\ OwnR [] m h t7 51 7 (acc.map (recC false)) /\ (acc = [] -> t7 = .nl) /\ acc.length <= b /\ (acc.length : Int) <= most /\ (acc ++ (S.lines rest (most - acc.length)).1, (S.lines rest (most - acc.length)).2) = q
theorem ref_linesOf_CS (s : List UInt8) (most : Int) (hsl : s.length <= 60000) (h0m : 0 <= most) : CS Tryz.prog 69 [Tx s, Int' most] (fun _ => none) 0 (LinesOut (S.lines s most) s.length) := by
 obtain ⟨q, hq⟩ : ∃ q, S.lines s most = q := ⟨_, rfl⟩;rw [hq];replace hq := hid hq;have hsp := hid (strings_SplitAfter s (by omega));have hal := S.after_len 10 s;obtain ⟨ts, hts⟩ : ∃ ts, S.after 10 s = ts := ⟨_, rfl⟩;rw [hts] at hsp hal;replace hsl := hid hsl;replace hal := hid hal;replace hts := hid hts;refine CS_inline (typesOk _) Tryz.func69 (fun _ _ => by kernel_rfl) rfl (by kernel_rfl) (Nat.le_of_ble_eq_true rfl) ?_;refine rC hsp.out ?_;refine rN ?_;refine loop_count 16 ts.length (fun k h m t => LinesAtR ts m h (t 7) (t 8) most k s.length q /\ ∃ d, m = d + 36) _ (by rfl) (by rfl) ⟨⟨[], s, 0, by simpa using hts.out, rfl, by simp, .inl ⟨rfl, rfl⟩, fun _ => rfl, by simp, by simpa using h0m, by simpa using hq.out⟩, ⟨_, rfl⟩⟩ ?_ ?_
 ·rintro k t h m hk hci hs ⟨⟨acc, rest, b, haf, t8, hb, hown, hnl, hab, ham, hl⟩, d, rfl⟩;have hw1 : IntKind.i64.wrap ((k : Int) + 1) = (k : Int) + 1 := wrap_ok (by have := hal.out; have := hsl.out; omega);have hk' : decide (k < ts.length) = true := by simp [hk]
  obtain ⟨x, hx⟩ : ∃ x, ts[k]? = some x := ⟨ts[k], by simp⟩;rw [drop_cons hx] at haf;have e1 := hs 1 rfl;have e14 := hs 14 rfl;have e15 := hs 15 rfl;clear hs;simp -dsimp -implicitDefEqProofs at e1 e14 e15;replace hk := hid hk;rcases S.after_first haf with ⟨hc, rfl, hnil⟩ | ⟨u, y, hc, rfl, hy⟩
  ·by_cases hne : x = []
   ·subst hne;rw [S.lines_nil] at hl;simp only [List.append_nil] at hl;subst hl;refine rS (aN e1 (aN e14 (aN e15 (aN hci (aN hk' (aN hx t8)))))) ?_;exact lines_out (hown.mono (no' := []) (fun i hi _ => by repeat (first | rfl | rw [upd_ne _ _ (by omega)])) (by omega) (fun _ h => .inl h)) hnl (by first | omega | (simp at hb; omega) | (simp at hb ⊢; omega)) rfl
   ·have hs10 := strings_HasSuffix x [10] (by have := hsl.out; omega);rw [suffix_out (S.cut1_none.1 hc)] at hs10;rw [S.lines_none _ hne hc] at hl;simp only [List.append_nil] at hl;subst hl;replace hs10 := hid hs10;refine rD (aN e1 (aN e14 (aN e15 (aN hci (aN hk' (aN hx hne)))))) hs10.out ?_;refine rS (aN e1 (aN e14 (aN e15 t8))) ?_;exact lines_out (hown.mono (no' := []) (fun i hi _ => by repeat (first | rfl | rw [upd_ne _ _ (by omega)])) (by omega) (fun _ h => .inl h)) hnl (by first | omega | (simp at hb; omega) | (simp at hb ⊢; omega)) rfl
  ·have hlen := S.cut1_len hc;have hs10 := strings_HasSuffix (u ++ [10]) [10] (by simp; have := hsl.out; omega);rw [suffix_in] at hs10;rw [S.lines_some _ hc] at hl;have cr := ref_RecRead u (by have := hsl.out; omega);obtain ⟨⟨r, e⟩, hp⟩ : ∃ p, S.recParse u = p := ⟨_, rfl⟩;rw [hp] at hl cr;simp only at hl cr;have hw2 : IntKind.i64.wrap (u.length : Int) = (u.length : Int) := wrap_ok (by have := hsl.out; omega);have hw3 : IntKind.i64.wrap ((b : Int) + ((u.length : Int) + 1)) = (b : Int) + ((u.length : Int) + 1) := wrap_ok (by have := hsl.out; omega);replace hs10 := hid hs10;replace cr := hid cr;clear hp hc haf;by_cases he : e = 0
   ·subst he;rw [if_neg (by simp)] at hl;by_cases hm : (acc.length : Int) = most
    ·rw [if_pos (by omega)] at hl;simp only [List.append_nil] at hl;subst hl;have hge : decide (most <= (acc.length : Int)) = true := by simp; omega
     have hmono := hown;rcases hown with ⟨t7, hn⟩ | ⟨i, t7, hno, his, hi⟩
     ·have hac : acc = [] := by simpa using hn
      subst hac;clear hn;simp only [List.length_nil, Int.natCast_zero] at hm hge;subst hm;refine rD (aN e1 (aN e14 (aN e15 (aN hci (aN hk' hx))))) hs10.out ?_;refine rD (aN e1 (aN e14 (aN e15 hw2))) cr.out ?_;refine rS (aN e1 (aN e14 (aN e15 (aN t7 t8)))) ?_;exact lines_out (acc := []) (.inl ⟨rfl, rfl⟩) (fun _ => rfl) (by first | omega | (simp at hb; omega) | (simp at hb ⊢; omega)) rfl
     ·refine rD (aN e1 (aN e14 (aN e15 (aN hci (aN hk' hx))))) hs10.out ?_;refine rD (aN e1 (aN e14 (aN e15 hw2))) cr.out ?_;refine rS (aN e1 (aN e14 (aN e15 (aN t7 (aN t8 hge))))) ?_;rw [t7, List.length_map] at hmono; rw [List.length_map] at t7
      exact lines_out (hmono.mono (no' := []) (fun i hi _ => by repeat (first | rfl | rw [upd_ne _ _ (by omega)])) (by omega) (fun _ h => .inl h)) (fun g => by rw [<- t7]; exact hnl g) (by omega) rfl
    ·rw [if_neg (by omega)] at hl;have hge : decide (most <= (acc.length : Int)) = false := by simp; omega
     have hl2 := hid hl;have hlt : (acc.length : Int) + 1 <= most := by omega
     have e8 : ((b + (u.length + 1) : Nat) : Int) = (b : Int) + ((u.length : Int) + 1) := by omega
     have hby : b + (u.length + 1) + y.length = s.length := by omega
     clear hl hlen hb;rcases hown with ⟨t7, hn⟩ | ⟨i, t7, hno, his, hi⟩
     ·have hac : acc = [] := by simpa using hn
      subst hac;clear hn;simp only [List.length_nil, Int.natCast_zero] at hge hlt;refine rD (aN e1 (aN e14 (aN e15 (aN hci (aN hk' hx))))) hs10.out ?_;refine rD (aN e1 (aN e14 (aN e15 hw2))) cr.out ?_;refine rS (aN e1 (aN e14 (aN e15 (aN hci (aN t7 (aN t8 (aN hge (aN hw1 hw3)))))))) ?_;exact ⟨[r], y, b + (u.length + 1), hy, by rw [e8], hby, .inr ⟨_, rfl, by simp, by omega, by simp -dsimp -implicitDefEqProofs⟩, fun g => (by simp at g), by simp; omega, by simp; omega, by simpa using hl2.out⟩
     ·have hz : decide (acc.length <= 100000000) = true := by have := hsl.out; simp; omega
      refine rD (aN e1 (aN e14 (aN e15 (aN hci (aN hk' hx))))) hs10.out ?_;refine rD (aN e1 (aN e14 (aN e15 hw2))) cr.out ?_;refine rS (aN e1 (aN e14 (aN e15 (aN hci (aN t7 (aN t8 (aN hge (aN hw1 (aN hw3 (aN hi (aN hz (apA his)))))))))))) ?_;exact ⟨acc ++ [r], y, b + (u.length + 1), hy, by rw [e8], hby, .inr ⟨d + 36 + 4 + 12 + 8 + 12 + 48 + 32 + 8 + 12, by simp, by simp, by omega, by simp -dsimp -implicitDefEqProofs⟩, fun g => (by simp at g), by simp; omega, by simp; omega, by have := hl2.out; simpa [Int.sub_sub] using this⟩
   ·rw [if_pos he] at hl;simp only [List.append_nil] at hl;subst hl;have he' : decide (e = 0) = false := by simp [he]
    refine rD (aN e1 (aN e14 (aN e15 (aN hci (aN hk' hx))))) hs10.out ?_;refine rD (aN e1 (aN e14 (aN e15 hw2))) cr.out ?_;refine rS (aN e1 (aN e14 (aN e15 (aN t8 he')))) ?_;exact lines_out (hown.mono (no' := []) (fun i hi _ => by repeat (first | rfl | rw [upd_ne _ _ (by omega)])) (by omega) (fun _ h => .inl h)) hnl (by first | omega | (simp at hb; omega) | (simp at hb ⊢; omega)) rfl
 ·rintro t h m hci hs ⟨⟨acc, rest, b, haf, -⟩, -⟩;rw [List.drop_length, S.after_cut] at haf;split at haf <;> cases haf
theorem ref_linesOf (s : List UInt8) (most : Int) (hs : s.length <= 60000) (h0 : 0 <= most) : C Tryz.prog 69 [Tx s, Int' most] (.tup [.lst false 7 ((S.lines s most).1.map (recC false)), Int' ((s.length : Int) - (S.lines s most).2.1), Int' (S.lines s most).2.2]) [] := by
 refine C_of (S := Sub) (fun h hv => Sub.v h hv) [] (by decide) rfl rfl rfl ((ref_linesOf_CS s most hs h0).mono' ?_);rintro h n r ⟨v, rfl, ho, -⟩;exact ends_lii (n := n) (ho.out recs_plain recs_unfr) rfl rfl
theorem ref_CheckDisk (d : S.Disk) : C Tryz.prog 19 [.agg (diskC false d)] (Int' (S.checkDisk d)) [] := by
 refine C_real (fun _ _ => by kernel_rfl) rfl rfl fun hr => ?_
 have hx := ((hr.get (j := 0) rfl).field (j := 0) rfl).len;have hy := ((hr.get (j := 0) rfl).field (j := 1) rfl).len;clear hr;rw [B8_length] at hx hy;unfold maxLen at hx hy;obtain ⟨a, b⟩ := d;simp only at hx hy;unfold S.checkDisk;simp only;by_cases h1 : 60000 < a.length
 ·rw [if_pos (.inl h1)];have h1' : decide ((60000 : Int) < (a.length : Int)) = true := by simp; omega
  refine CI Tryz.func19 ?_;refine rS h1' ?_;exact ends_int rfl
 ·have h1' : decide ((60000 : Int) < (a.length : Int)) = false := by simp; omega
  have hw : IntKind.i64.wrap ((60000 : Int) - a.length) = (60000 : Int) - a.length := wrap_ok (by omega);by_cases h2 : 60000 < b.length + a.length
  ·rw [if_pos (.inr h2)];have h2' : decide ((60000 : Int) - a.length < (b.length : Int)) = true := by simp; omega
   refine CI Tryz.func19 ?_;refine rS (aN h1' (aN hw h2')) ?_;exact ends_int rfl
  ·rw [if_neg (by omega)];have h2' : decide ((60000 : Int) - a.length < (b.length : Int)) = false := by simp; omega
   have cl := hid (ref_linesOf a 80 (by omega) (by omega));generalize S.lines a 80 = q at *;clear hx hy h1 h2;refine CI Tryz.func19 ?_;refine rD (aN h1' (aN hw h2')) cl.out ?_;refine rN ?_;exact ends_int rfl
theorem ref_SameDisk (a b : S.Disk) : C Tryz.prog 23 [.agg (diskC false a), .agg (diskC false b)] (Bool' (decide (a = b))) [] := by
 obtain ⟨a, c⟩ := a;obtain ⟨b, d⟩ := b;have e : decide ((⟨a, c⟩ : S.Disk) = ⟨b, d⟩) = (decide (a = b) && decide (c = d)) := by simp [Bool.decide_and]
 rw [e];have h1 := hid (equal_bytes a b);have h2 := hid (equal_bytes c d);generalize decide (a = b) = x at *;generalize decide (c = d) = y at *;cases x
 ·refine CI Tryz.func23 ?_;refine rC h1.out ?_;refine rN ?_;exact ends_bool rfl
 ·refine CI Tryz.func23 ?_;refine rC h1.out ?_;refine rC h2.out ?_;refine rN ?_;exact ends_bool rfl
theorem ends_al {h : Heap} {n : Nat} {cells target : List AV} {v l : AV} (ho : OutL h cells target) (hl : OutL h [v] [l]) (hv : outAgg h [] v = outLeaf h [] v) : Ends [] (.tup [.agg target, l]) [] h n (.tup [.agg cells, v]) := by
 obtain ⟨cells', ho, hs⟩ := ho;obtain ⟨l', hl, hs2⟩ := hl;rw [List.mapM_cons] at hl;cases hq : outLeaf h [] v with
 | none => rw [hq] at hl; cases hl
 | some z =>
  rw [hq] at hl;cases hl;refine ⟨⟨.tup [.agg cells', z], ?_, .tup (.cons (.agg hs) (.cons (.leaf ?_) (.nil _)))⟩, rfl⟩
  ·have e1 : outAgg h [] (.agg cells) = some (.agg cells') := by
    show (cells.mapM (outLeaf h [])).map AV.agg = _;rw [ho]; rfl
   show (List.mapM (outAgg h []) [_, _]).map AV.tup = _;rw [List.mapM_cons, e1, List.mapM_cons, hv, hq];rfl
  ·exact hs2.2 0 _ _ rfl rfl
theorem ref_Recovered (d : S.Disk) (h : S.checkDisk d = 0) : C Tryz.prog 26 [.agg (diskC false d)] (.tup [.agg (diskC true (S.recoverDisk d).1), .lst false 7 ((S.recoverDisk d).2.1.map (recC false))]) [] := by
 unfold S.recoverDisk;rw [if_neg (by simp [h])];obtain ⟨k1, k2, -⟩ := checkDisk_ok h;obtain ⟨a, b⟩ := d;unfold S.kept;simp only at k1 k2 ⊢;have l1 := ref_linesOf a 80 (by omega) (by omega);have r1 := S.lines_room a (m := 80) (by omega);generalize S.lines a 80 = p at *;obtain ⟨xs, left1, e1⟩ := p;simp only at l1 r1 ⊢;have l2 := ref_linesOf b (80 - (xs.length : Int)) (by omega) (by omega);have r2 := S.lines_room b (m := 80 - (xs.length : Int)) (by omega);have r3 := (S.lines_left b (80 - (xs.length : Int))).1;generalize S.lines b (80 - (xs.length : Int)) = q at *;obtain ⟨ys, left2, e2⟩ := q;simp only at l2 r2 r3 ⊢;have em : (b.length : Int) - left2 = ((b.length - left2 : Nat) : Int) := by omega
 rw [em] at l2;have hm : b.length - left2 <= b.length := by omega
 generalize b.length - left2 = m at *;have hw : IntKind.i64.wrap ((80 : Int) - xs.length) = (80 : Int) - xs.length := wrap_ok (by omega);have c1 := hid (concat_bytes a (b.take m) (by omega) (by simp; omega));have w1 : IntKind.i64.wrap (xs.length : Int) = xs.length := wrap_ok (by omega);have w2 : IntKind.i64.wrap ((xs.length : Int) + ys.length) = (xs.length : Int) + ys.length := wrap_ok (by omega);have d1 : decide ((xs.length : Int) < 0) = false := by simp
 have d2 : decide ((xs.length : Int) + ys.length < 0) = false := by simp; omega
 have d3 : decide (100000000 < xs.length) = false := by simp; omega
 have d4 : decide (100000000 < ys.length) = false := by simp; omega
 have d5 : xs.length <= 100000000 := by omega
 have hg := grow_recs (xs.length + ys.length) (by omega);simp only [Int.natCast_add] at hg;replace hg := hid hg;replace l1 := hid l1;replace l2 := hid l2;clear r1 r2 r3 em h k1 k2;refine C_of (S := Sub) (fun h hv => Sub.v h hv) [] (by decide) rfl rfl rfl (CS_inlineZ (typesOk _) [] 3 12 none Tryz.func26 (fun _ _ => by kernel_rfl) rfl (by kernel_rfl) (Nat.le_of_ble_eq_true rfl) ?_);refine rC l1.out ?_;refine rD hw l2.out ?_;refine rD hm c1.out ?_;refine rS hm ?_;refine CSI Tryz.func73 ?_;refine rN ?_;refine loop_unroll 3 ?_;refine rD (aN w1 (aN w2 (aN d1 d2))) hg.out ?_;refine rN ?_;refine loop_unroll 3 ?_;refine rS (aN d3 (aN d4 d5)) ?_;exact ends_al (n := 0) (OutL.lst (fun h => h) (OutL.nl (OutL.nil _))) (OutL.recs rfl ⟨rfl, by simp⟩ (by simp) (OutL.nil _)) rfl
theorem ref_PutOn (d : S.Disk) (r : S.Rec) (h : S.checkDisk d = 0) : C Tryz.prog 24 [.agg (diskC false d), .agg (recC false r)] (.tup [.agg (diskC false (S.putDisk d r).1), Int' (S.putDisk d r).2]) [] := by
 unfold S.putDisk;rw [if_neg (by simp [h])];obtain ⟨k1, k2, -⟩ := checkDisk_ok h;have hp := ref_RecText r;unfold S.recPrint at hp;by_cases hr : S.checkRec r = 0
 rotate_left
 ·rw [if_pos hr];rw [if_pos hr] at hp;generalize S.checkRec r = e at *;have he : decide (e = 0) = false := by simp [hr]
  replace hp := hid hp;refine CI Tryz.func24 ?_;refine rC hp.out ?_;refine rS he ?_;exact ends_ag outL rfl
 rw [if_neg (by simp [hr])] at hp;rw [if_neg (by simp [hr])];have hlen := S.recText_len hr;generalize S.recText r = t at *;replace hp := hid hp;obtain ⟨a, b⟩ := d;simp only at k1 k2 ⊢;have w1 : IntKind.i64.wrap ((a.length : Int) + b.length) = (a.length : Int) + b.length := wrap_ok (by omega);have w2 : IntKind.i64.wrap ((a.length : Int) + b.length + t.length) = (a.length : Int) + b.length + t.length := wrap_ok (by omega);have w3 : IntKind.i64.wrap ((a.length : Int) + b.length + t.length + 1) = (a.length : Int) + b.length + t.length + 1 := wrap_ok (by omega);by_cases h2 : 60000 < t.length + 1 + a.length + b.length
 ·rw [if_pos h2];have h2' : decide ((60000 : Int) < (a.length : Int) + b.length + t.length + 1) = true := by simp; omega
  refine CI Tryz.func24 ?_;refine rC hp.out ?_;refine rS (aN w1 (aN w2 (aN w3 h2'))) ?_;exact ends_ag outL rfl
 ·rw [if_neg h2];have h2' : decide ((60000 : Int) < (a.length : Int) + b.length + t.length + 1) = false := by simp; omega
  have c1 := concat_bytes b (t ++ [10]) (by omega) (by simp; omega);rw [<- List.append_assoc] at c1;replace c1 := hid c1;have f1 : t.length <= 3999999999999999999 := by omega
  have f2 : t.length + 1 <= 1000000 := by omega
  have f3 : decide (t.length <= 3999999999999999999) = true := by simp; omega
  have f4 : decide (t.length <= 999999) = true := by simp; omega
  clear h h2 hr hlen k1 k2;refine CI Tryz.func24 ?_;refine rC hp.out ?_;refine rD (aN w1 (aN w2 (aN w3 (aN h2' (aN f1 (aN f2 (aN f3 f4))))))) c1.out ?_;refine rN ?_;exact ends_ag outL rfl
theorem check_catR (l : List UInt8) : C Tryz.prog 19 [.agg [.lst false 1 (B8 l), .nl]] (Int' (S.checkDisk ⟨l, []⟩)) [] :=
 (ref_CheckDisk ⟨l, []⟩).args (.cons (.agg (.cons (.refl _) (.cons .nl (.nil _)))) (.nil _))
theorem ref_Synced (d : S.Disk) (h : S.checkDisk d = 0) : C Tryz.prog 25 [.agg (diskC false d)] (.tup [.agg (diskC true (S.syncDisk d).1), Int' (S.syncDisk d).2]) [] := by
 unfold S.syncDisk;rw [if_neg (by simp [h])];obtain ⟨k1, k2, -⟩ := checkDisk_ok h;obtain ⟨a, b⟩ := d;simp only at k1 k2 ⊢;have c1 := hid (concat_bytes a b (by omega) (by omega));have c2 := check_catR (a ++ b);generalize a ++ b = l at *;clear k1 k2 h;by_cases h : S.checkDisk ⟨l, []⟩ = 0
 ·rw [if_neg (by simp [h])];rw [h] at c2;replace c2 := hid c2;clear h;refine CI Tryz.func25 ?_;refine rC c1.out ?_;refine rC c2.out ?_;refine rN ?_;exact ends_ag outL rfl
 ·rw [if_pos h];generalize S.checkDisk ⟨l, []⟩ = e at *;have he : decide (e = 0) = false := by simp [h]
  replace c2 := hid c2;refine CI Tryz.func25 ?_;refine rC c1.out ?_;refine rC c2.out ?_;refine rS he ?_;exact ends_ag outL rfl
theorem equal_hands_ref (xs ys : List S.Hand) : C Tryz.prog 44 [.lst false 8 (xs.map (handC false)), .lst false 8 (ys.map (handC false)), .fn 50 []] (Bool' (decide (xs = ys))) [] := by
 rw [<- eqAll_dec];exact equalFunc_hands (fun _ => rfl) xs ys (fun x y _ _ => ref_SameHand x y) (fun _ _ => ⟨rfl, rfl⟩)
theorem ref_SameWorld1 (a b : S.Mail) : C Tryz.prog 51 [.agg (mailC false a), .agg (mailC false b)] (Bool' (decide (a = b))) [] := by
 refine CI Tryz.func51 ?_;refine rN ?_;refine guardC_C (ref_SameCmd a.c b.c) (by first | rfl | (simp -dsimp -implicitDefEqProofs; done)) (by first | exact Or.inr (by rfl) | exact Or.inl (by rfl)) ?_;refine rN ?_;refine guardC_C (ref_SameAnswer a.a b.a) (by first | rfl | (simp -dsimp -implicitDefEqProofs; done)) (by first | exact Or.inr (by rfl) | exact Or.inl (by rfl)) ?_;refine rN ?_;exact ends_eq (by cases a; cases b; simp [and_assoc])
theorem equal_mails_ref (xs ys : List S.Mail) : C Tryz.prog 46 [.lst false 11 (xs.map (mailC false)), .lst false 11 (ys.map (mailC false)), .fn 51 []] (Bool' (decide (xs = ys))) [] := by
 rw [<- eqAll_dec];exact equalFunc_mails (fun _ => rfl) xs ys (fun x y _ _ => ref_SameWorld1 x y) (fun _ _ => ⟨rfl, rfl⟩)
theorem ref_SameWorld (a b : S.World) : C Tryz.prog 11 [.agg (worldC false a), .agg (worldC false b)] (Bool' (decide (a = b))) [] := by
 refine CI Tryz.func11 ?_;refine rN ?_;refine guardC_C (ref_SameHall a.h b.h) (by first | rfl | (simp -dsimp -implicitDefEqProofs; done)) (by first | exact Or.inr (by rfl) | exact Or.inl (by rfl)) ?_;refine rN ?_;refine guardC_C (ref_SameDisk a.d b.d) (by first | rfl | (simp -dsimp -implicitDefEqProofs; done)) (by first | exact Or.inr (by rfl) | exact Or.inl (by rfl)) ?_;refine rN ?_;refine guardC_C (equal_hands_ref a.hand b.hand) (by first | rfl | (simp -dsimp -implicitDefEqProofs; done)) (by first | exact Or.inr (by rfl) | exact Or.inl (by rfl)) ?_;refine rN ?_;refine guardC_C (equal_mails_ref a.mail b.mail) (by first | rfl | (simp -dsimp -implicitDefEqProofs; done)) (by first | exact Or.inr (by rfl) | exact Or.inl (by rfl)) ?_;refine rN ?_;exact ends_eq (by cases a; cases b; simp [and_assoc]; exact ⟨fun ⟨a, b, c, d, e⟩ => ⟨b, c, a, d, e⟩, fun ⟨b, c, a, d, e⟩ => ⟨a, b, c, d, e⟩⟩)
theorem ref_Fresh : C Tryz.prog 13 [] (.agg (worldC true S.World.new)) [] := by
 refine CI Tryz.func13 ?_;refine rC ref_FreshHall ?_;refine rN ?_;refine ends_agg (.lst (by simp) (.lst (by simp) (.at (.at (.lst (by simp) (.nl (.nl (.at (.cons (own_outR rfl rfl (rows' := [[Int' 0, Bool' false, Int' 0, Int' 0, Int' 0, Int' 0, .nl, .nl], [Int' 0, Bool' false, Int' 0, Int' 0, Int' 0, Int' 0, .nl, .nl], [Int' 0, Bool' false, Int' 0, Int' 0, Int' 0, Int' 0, .nl, .nl]]) rfl rfl) (.lst (fun h => h) ?_) (.nl (.nil _)))))))))));have hr : SubL SubC [Int' 0, Bool' false, Int' 0, Int' 0, Int' 0, Int' 0, .nl, .nl] (handC false S.Hand.zero) := .cons (.refl _) (.cons (.refl _) (.cons (.refl _) (.cons (.refl _) (.cons (.refl _) (.cons (.refl _) (.cons .nl (.cons .nl (.nil _))))))));exact .cons hr (.cons hr (.cons hr .nil))
theorem ref_CheckMail (m : S.Mail) : C Tryz.prog 33 [.agg (mailC false m)] (Int' (S.checkMail m)) [] := by
 obtain ⟨back, who, seq, c, a⟩ := m;obtain ⟨r, hr⟩ : ∃ r, S.checkMail ⟨back, who, seq, c, a⟩ = r := ⟨_, rfl⟩;rw [hr];unfold S.checkMail at hr;simp only at hr;have i1 := ref_in who 0 2;have i2 := ref_in seq 1 40;by_cases h1 : 0 <= who /\ who <= 2
 rotate_left
 ·have e : (decide (0 <= who) && decide (who <= 2)) = false := by simp; omega
  rw [e] at i1;rw [if_pos (by omega)] at hr;subst hr;replace i1 := hid i1;refine CI Tryz.func33 ?_;refine rC i1.out ?_;refine rN ?_;exact ends_int rfl
 have e1 : (decide (0 <= who) && decide (who <= 2)) = true := by simp; omega
 rw [e1] at i1;by_cases h2 : 1 <= seq /\ seq <= 40
 rotate_left
 ·have e : (decide (1 <= seq) && decide (seq <= 40)) = false := by simp; omega
  rw [e] at i2;rw [if_pos (by omega)] at hr;subst hr;replace i1 := hid i1;replace i2 := hid i2;refine CI Tryz.func33 ?_;refine rC i1.out ?_;refine rC i2.out ?_;refine rN ?_;exact ends_int rfl
 have e2 : (decide (1 <= seq) && decide (seq <= 40)) = true := by simp; omega
 rw [e2] at i2;rw [if_neg (by omega)] at hr;have hck : S.checkRec ⟨who, seq, c⟩ = S.checkCmd c := by unfold S.checkRec; rw [if_neg (by simp only; omega)]
 rw [hck] at hr;clear e1 e2 h1 h2 hck;replace i1 := hid i1;replace i2 := hid i2;cases back with
 | true =>
  rw [if_pos rfl] at hr;by_cases h1 : c = S.Cmd.zero
  ·rw [if_neg (by simp [h1])] at hr;have h1' : decide (c = S.Cmd.zero) = true := by simp [h1]
   have k1 := hid (ref_SameCmd0 c);rw [h1'] at k1;replace hr := hid hr;refine CI Tryz.func33 ?_;refine rC i1.out ?_;refine rC i2.out ?_;refine rC k1.out ?_;refine rC (ref_CheckAnswer a) ?_;refine rN ?_;exact ends_int hr.out
  ·rw [if_pos h1] at hr;have h1' : decide (c = S.Cmd.zero) = false := by simp [h1]
   have k1 := hid (ref_SameCmd0 c);rw [h1'] at k1;subst hr;refine CI Tryz.func33 ?_;refine rC i1.out ?_;refine rC i2.out ?_;refine rC k1.out ?_;refine rN ?_;exact ends_int rfl
 | false =>
  rw [if_neg (by simp)] at hr;by_cases h1 : a = S.Answer.zero
  ·rw [if_neg (by simp [h1])] at hr;have h1' : decide (a = S.Answer.zero) = true := by simp [h1]
   have k1 := hid (ref_SameAnswer0 a);rw [h1'] at k1;have k2 := hid (ref_CheckCmd c);rw [hr] at k2;replace hr := hid hr;refine CI Tryz.func33 ?_;refine rC i1.out ?_;refine rC i2.out ?_;refine rC k1.out ?_;refine rC k2.out ?_;refine rN ?_;exact ends_int rfl
  ·rw [if_pos h1] at hr;have h1' : decide (a = S.Answer.zero) = false := by simp [h1]
   have k1 := hid (ref_SameAnswer0 a);rw [h1'] at k1;subst hr;refine CI Tryz.func33 ?_;refine rC i1.out ?_;refine rC i2.out ?_;refine rC k1.out ?_;refine rN ?_;exact ends_int rfl
theorem recover_err (d : S.Disk) : (S.recoverDisk d).2.2 = S.checkDisk d := by
 unfold S.recoverDisk;by_cases h : S.checkDisk d = 0
 ·rw [if_neg (by simp [h])]; exact h.symm
 ·rw [if_pos h]
theorem hallOf_rep (l : List S.Rec) : (hallOf l).1 = (S.replay l).1 /\ (hallOf l).2.2 = (S.replay l).2 := by
 unfold hallOf S.replay;split
 ·exact ⟨rfl, rfl⟩
 ·exact hallOf_replay l S.Hall.new [] (by decide)
theorem hallOf1_eq {l : List S.Rec} {w : S.Hall} {e : Int} (h : S.replay l = (w, e)) : ∃ told : List S.Answer, C Tryz.prog 34 [.lst false 7 (l.map (recC false))] (hallOfR (w, told, e)) [] := by
 obtain ⟨h1, h2⟩ := hallOf_rep l;rw [h] at h1 h2;refine ⟨(hallOf l).2.1, ?_⟩;have := ref_HallOf l;obtain ⟨⟨a, b, c⟩, hq⟩ : ∃ q, hallOf l = q := ⟨_, rfl⟩;rw [hq] at this h1 h2 ⊢;simp only at h1 h2;subst h1 h2;exact this
theorem hallOf0_eq {w : S.Hall} {e : Int} (h : S.replay [] = (w, e)) : ∃ told : List S.Answer, C Tryz.prog 34 [.nl] (hallOfR (w, told, e)) [] := by
 obtain ⟨told, this⟩ := hallOf1_eq h;exact ⟨told, this.args (.cons (.leaf .nl) (.nil _))⟩
theorem ref_CheckWorld (w : S.World) : C Tryz.prog 7 [.agg (worldC false w)] (Int' (S.checkWorld w)) [] := by
 obtain ⟨H, d, up, hand, mail⟩ := w;obtain ⟨r, hr⟩ : ∃ r, S.checkWorld ⟨H, d, up, hand, mail⟩ = r := ⟨_, rfl⟩;rw [hr];unfold S.checkWorld at hr;simp only at hr;by_cases h1 : hand.length = 3
 rotate_left
 ·rw [if_pos h1] at hr;subst hr;have h1' : decide ((hand.length : Int) = 3) = false := by simp; omega
  have h1'' : decide (hand.length = 3) = false := by simp; omega
  refine CI Tryz.func7 ?_;refine rS (aN h1' h1'') ?_;exact ends_int rfl
 rw [if_neg (by simp [h1])] at hr;have h1' : decide ((hand.length : Int) = 3) = true := by simp; omega
 have h1'' : decide (hand.length = 3) = true := by simp; omega
 by_cases h2 : 30 < mail.length
 ·rw [if_pos h2] at hr;subst hr;have h2' : decide ((30 : Int) < (mail.length : Int)) = true := by simp; omega
  have h2'' : decide (30 < mail.length) = true := by simp; omega
  refine CI Tryz.func7 ?_;refine rS (aN h1' (aN h1'' (aN h2' h2''))) ?_;exact ends_int rfl
 rw [if_neg h2] at hr;have h2' : decide ((30 : Int) < (mail.length : Int)) = false := by simp; omega
 have h2'' : decide (30 < mail.length) = false := by simp; omega
 have hrm : S.firstBad S.checkMail mail ≠ 0 -> S.firstBad S.checkMail mail = r := fun g => by rw [if_pos g] at hr; exact hr
 replace hrm := hid hrm;replace hr := hid hr;refine CI Tryz.func7 ?_;refine rS (aN h1' (aN h1'' (aN h2' h2''))) ?_;refine loop_count 25 mail.length (fun k h m _ => h 0 = some ⟨37, 10, [worldC false ⟨H, d, up, hand, mail⟩]⟩ /\ (∃ d, m = d + 56) /\ Hid (∀ (j : Nat) (x : S.Mail), j < k -> mail[j]? = some x -> S.checkMail x = 0)) _ rfl (by rfl) ⟨rfl, ⟨0, rfl⟩, by intro j x hj; omega⟩ ?_ ?_
 ·rintro k t h m hk hci hs ⟨h0, ⟨dd, rfl⟩, hb⟩;have hw : IntKind.i64.wrap ((k : Int) + 1) = (k : Int) + 1 := wrap_ok (by omega);obtain ⟨x, hx⟩ : ∃ x, mail[k]? = some x := ⟨mail[k], by simp⟩;have hk' : decide (k < mail.length) = true := by simp [hk]
  have e1 := hs 1 rfl;have e23 := hs 23 rfl;have e24 := hs 24 rfl;clear hs;simp -dsimp -implicitDefEqProofs at e1 e23 e24;replace hk := hid hk;obtain ⟨q, hq⟩ : ∃ q, S.checkMail x = q := ⟨_, rfl⟩;have hbad : q ≠ 0 -> q = r := fun g => by rw [<- hrm.out (by rw [firstBad_at hb.out hx (by rw [hq]; exact g), hq]; exact g), firstBad_at hb.out hx (by rw [hq]; exact g), hq]
  have hgood : q = 0 -> ∀ (j : Nat) (y : S.Mail), j < k + 1 -> mail[j]? = some y -> S.checkMail y = 0 := fun g => upto_succ hb.out hx (by rw [hq]; exact g)
  replace hbad := hid hbad;replace hgood := hid hgood;have cm := hid (hq ▸ ref_CheckMail x);clear hb hq;by_cases hq0 : q = 0
  ·have hg := hgood.out hq0;subst hq0;clear hbad hgood;refine rD (aN e1 (aN e23 (aN e24 (aN hci (aN hk' (aN hx h0)))))) cm.out ?_;refine rS (aN e1 (aN e23 (aN e24 (aN hci (aN hw h0))))) ?_;exact hg
  ·have := hbad.out hq0;clear hbad hgood;refine rD (aN e1 (aN e23 (aN e24 (aN hci (aN hk' (aN hx h0)))))) cm.out ?_;refine rS (aN e1 (aN e23 (aN e24 (aN hci (aN hq0 h0))))) ?_;exact ends_int this
 ·rintro t h m hci hs ⟨h0, ⟨dd, rfl⟩, hb⟩;have hfb := firstBad_none (f := S.checkMail) (xs := mail) hb.out;clear hb hrm;have hr2 := hr.out;rw [hfb, if_neg (by simp)] at hr2;clear hr hfb;have e1 := hs 1 rfl;have e23 := hs 23 rfl;have e24 := hs 24 rfl;clear hs;simp -dsimp -implicitDefEqProofs at e1 e23 e24;obtain ⟨⟨X, L, e⟩, hR⟩ : ∃ q, S.recoverDisk d = q := ⟨_, rfl⟩
  have hhr : S.heard ⟨H, d, up, hand, mail⟩ = if up = true then L else [] := by
   unfold S.heard;simp only [hR]
  rw [hhr, hR] at hr2;have hce : S.checkDisk d = e := by have := recover_err d; rw [hR] at this; exact this.symm
  have cr := hid (hce ▸ ref_CheckDisk d);have cv0 : e = 0 -> C Tryz.prog 26 [.agg (diskC false d)] (.tup [.agg (diskC true X), .lst false 7 (L.map (recC false))]) [] := fun g => by have := ref_Recovered d (hce.trans g); rw [hR] at this; exact this
  clear hhr hR hce;simp only at hr2;by_cases he : e = 0
  rotate_left
  ·rw [if_pos he] at hr2;subst hr2;refine rD (aN e1 (aN e23 (aN e24 (aN hci h0)))) cr.out ?_;refine rS (aN e1 (aN e23 (aN e24 (aN he h0)))) ?_;exact ends_int rfl
  rw [if_neg (by simp [he])] at hr2;subst he;have cv := hid (cv0 rfl);clear cv0;by_cases hu : up = true /\ 0 < d.wait.length
  ·rw [if_pos hu] at hr2;obtain ⟨rfl, hu2⟩ := hu;subst hr2;have g1 : decide (0 < d.wait.length) = true := by simp; omega
   refine rD (aN e1 (aN e23 (aN e24 (aN hci h0)))) cr.out ?_;refine rS (aN e1 (aN e23 (aN e24 (aN h0 g1)))) ?_;exact ends_int rfl
  rw [if_neg hu] at hr2;obtain ⟨⟨G, f⟩, hG⟩ : ∃ q, S.replay (if up = true then L else []) = q := ⟨_, rfl⟩;rw [hG] at hr2;simp only at hr2
  have hgu : up = true -> decide (0 < d.wait.length) = false := fun g => by
   simp; exact List.eq_nil_of_length_eq_zero (by
    by_cases g2 : 0 < d.wait.length
    ·exact absurd ⟨g, g2⟩ hu
    ·omega)
  replace hgu := hid hgu;clear hu;cases up with
  | true =>
   rw [if_pos rfl] at hG;obtain ⟨told, cp0⟩ := hallOf1_eq hG;have cp := hid cp0;clear cp0;have g1 := hgu.out rfl;clear hG hgu;by_cases hf : f = 0
   rotate_left
   ·rw [if_pos hf] at hr2;subst hr2;refine rD (aN e1 (aN e23 (aN e24 (aN hci h0)))) cr.out ?_;refine rD (aN e1 (aN e23 (aN e24 (aN h0 g1)))) cv.out ?_;refine rD (aN e1 (aN e23 (aN e24 h0))) cp.out ?_;refine rS (aN e1 (aN e23 (aN e24 (aN h0 hf)))) ?_;exact ends_int rfl
   rw [if_neg (by simp [hf])] at hr2;subst hf;by_cases hGH : G = H
   rotate_left
   ·rw [if_pos hGH] at hr2;subst hr2;have cs := hid (sameHR_eq (a := G) (b := H) (r := false) (by simp [hGH]));refine rD (aN e1 (aN e23 (aN e24 (aN hci h0)))) cr.out ?_;refine rD (aN e1 (aN e23 (aN e24 (aN h0 g1)))) cv.out ?_;refine rD (aN e1 (aN e23 (aN e24 h0))) cp.out ?_;refine rD (aN e1 (aN e23 (aN e24 h0))) cs.out ?_;refine rS (aN e1 (aN e23 (aN e24 h0))) ?_;exact ends_int rfl
   rw [if_neg (by simp [hGH])] at hr2;have cs := hid (sameHR_eq (a := G) (b := H) (r := true) (by simp [hGH]));clear hGH;replace hr2 := hid hr2;refine rD (aN e1 (aN e23 (aN e24 (aN hci h0)))) cr.out ?_;refine rD (aN e1 (aN e23 (aN e24 (aN h0 g1)))) cv.out ?_;refine rD (aN e1 (aN e23 (aN e24 h0))) cp.out ?_;refine rD (aN e1 (aN e23 (aN e24 h0))) cs.out ?_;refine rS (aN e1 (aN e23 (aN e24 h0))) ?_;clear cr cp cs cv h0 e1 e23 e24 hci;refine loop_count 71 hand.length (fun k h m _ => (∃ d, m = d + 56) /\ Hid (∀ (j : Nat) (x : S.Hand), j < k -> hand[j]? = some x -> S.checkHand x = 0)) _ rfl (by rfl) ⟨⟨_, by simp only [Nat.add_assoc, Nat.add_comm, Nat.add_left_comm]; rfl⟩, by intro j x hj; omega⟩ ?_ ?_
   ·rintro k t h m hk hci hs ⟨⟨dd, rfl⟩, hb⟩;have hw : IntKind.i64.wrap ((k : Int) + 1) = (k : Int) + 1 := wrap_ok (by omega);obtain ⟨x, hx⟩ : ∃ x, hand[k]? = some x := ⟨hand[k], by simp⟩;have hk' : decide (k < hand.length) = true := by simp [hk]
    have e69 := hs 69 rfl;have e70 := hs 70 rfl;clear hs;simp -dsimp -implicitDefEqProofs at e69 e70;replace hk := hid hk;obtain ⟨q, hq⟩ : ∃ q, S.checkHand x = q := ⟨_, rfl⟩;have hbad : q ≠ 0 -> q = r := fun g => by rw [<- hr2.out, firstBad_at hb.out hx (by rw [hq]; exact g), hq]
    have hgood : q = 0 -> ∀ (j : Nat) (y : S.Hand), j < k + 1 -> hand[j]? = some y -> S.checkHand y = 0 := fun g => upto_succ hb.out hx (by rw [hq]; exact g)
    replace hbad := hid hbad;replace hgood := hid hgood;have cm := hid (hq ▸ ref_CheckHand x);clear hb hq;by_cases hq0 : q = 0
    ·have hg := hgood.out hq0;subst hq0;clear hbad hgood;refine rD (aN e69 (aN e70 (aN hci (aN hk' hx)))) cm.out ?_;refine rS (aN e69 (aN e70 (aN hci hw))) ?_;exact hg
    ·have := hbad.out hq0;clear hbad hgood;refine rD (aN e69 (aN e70 (aN hci (aN hk' hx)))) cm.out ?_;refine rS (aN e69 (aN e70 (aN hci hq0))) ?_;exact ends_int this
   ·rintro t h m hci hs ⟨⟨dd, rfl⟩, hb⟩;have hfb := firstBad_none (f := S.checkHand) (xs := hand) hb.out;have e69 := hs 69 rfl;have e70 := hs 70 rfl;clear hs;simp -dsimp -implicitDefEqProofs at e69 e70;refine rS (aN e69 (aN e70 hci)) ?_;exact ends_int (by rw [<- hr2.out, hfb])
  | false =>
   rw [if_neg (by simp)] at hG;obtain ⟨told, cp0⟩ := hallOf0_eq hG;have cp := hid cp0;clear cp0;clear hG hgu;by_cases hf : f = 0
   rotate_left
   ·rw [if_pos hf] at hr2;subst hr2;refine rD (aN e1 (aN e23 (aN e24 (aN hci h0)))) cr.out ?_;refine rD (aN e1 (aN e23 (aN e24 h0))) cp.out ?_;refine rS (aN e1 (aN e23 (aN e24 (aN h0 hf)))) ?_;exact ends_int rfl
   rw [if_neg (by simp [hf])] at hr2;subst hf;by_cases hGH : G = H
   rotate_left
   ·rw [if_pos hGH] at hr2;subst hr2;have cs := hid (sameHR_eq (a := G) (b := H) (r := false) (by simp [hGH]));refine rD (aN e1 (aN e23 (aN e24 (aN hci h0)))) cr.out ?_;refine rD (aN e1 (aN e23 (aN e24 h0))) cp.out ?_;refine rD (aN e1 (aN e23 (aN e24 h0))) cs.out ?_;refine rS (aN e1 (aN e23 (aN e24 h0))) ?_;exact ends_int rfl
   rw [if_neg (by simp [hGH])] at hr2;have cs := hid (sameHR_eq (a := G) (b := H) (r := true) (by simp [hGH]));clear hGH;replace hr2 := hid hr2;refine rD (aN e1 (aN e23 (aN e24 (aN hci h0)))) cr.out ?_;refine rD (aN e1 (aN e23 (aN e24 h0))) cp.out ?_;refine rD (aN e1 (aN e23 (aN e24 h0))) cs.out ?_;refine rS (aN e1 (aN e23 (aN e24 h0))) ?_;clear cr cp cs cv h0 e1 e23 e24 hci;refine loop_count 71 hand.length (fun k h m _ => (∃ d, m = d + 56) /\ Hid (∀ (j : Nat) (x : S.Hand), j < k -> hand[j]? = some x -> S.checkHand x = 0)) _ rfl (by rfl) ⟨⟨_, by simp only [Nat.add_assoc, Nat.add_comm, Nat.add_left_comm]; rfl⟩, by intro j x hj; omega⟩ ?_ ?_
   ·rintro k t h m hk hci hs ⟨⟨dd, rfl⟩, hb⟩;have hw : IntKind.i64.wrap ((k : Int) + 1) = (k : Int) + 1 := wrap_ok (by omega);obtain ⟨x, hx⟩ : ∃ x, hand[k]? = some x := ⟨hand[k], by simp⟩;have hk' : decide (k < hand.length) = true := by simp [hk]
    have e69 := hs 69 rfl;have e70 := hs 70 rfl;clear hs;simp -dsimp -implicitDefEqProofs at e69 e70;replace hk := hid hk;obtain ⟨q, hq⟩ : ∃ q, S.checkHand x = q := ⟨_, rfl⟩;have hbad : q ≠ 0 -> q = r := fun g => by rw [<- hr2.out, firstBad_at hb.out hx (by rw [hq]; exact g), hq]
    have hgood : q = 0 -> ∀ (j : Nat) (y : S.Hand), j < k + 1 -> hand[j]? = some y -> S.checkHand y = 0 := fun g => upto_succ hb.out hx (by rw [hq]; exact g)
    replace hbad := hid hbad;replace hgood := hid hgood;have cm := hid (hq ▸ ref_CheckHand x);clear hb hq;by_cases hq0 : q = 0
    ·have hg := hgood.out hq0;subst hq0;clear hbad hgood;refine rD (aN e69 (aN e70 (aN hci (aN hk' hx)))) cm.out ?_;refine rS (aN e69 (aN e70 (aN hci hw))) ?_;exact hg
    ·have := hbad.out hq0;clear hbad hgood;refine rD (aN e69 (aN e70 (aN hci (aN hk' hx)))) cm.out ?_;refine rS (aN e69 (aN e70 (aN hci hq0))) ?_;exact ends_int this
   ·rintro t h m hci hs ⟨⟨dd, rfl⟩, hb⟩;have hfb := firstBad_none (f := S.checkHand) (xs := hand) hb.out;have e69 := hs 69 rfl;have e70 := hs 70 rfl;clear hs;simp -dsimp -implicitDefEqProofs at e69 e70;refine rS (aN e69 (aN e70 hci)) ?_;exact ends_int (by rw [<- hr2.out, hfb])
end Go.Proofs.YtadmfokicjjglaaGreatDoor.E
