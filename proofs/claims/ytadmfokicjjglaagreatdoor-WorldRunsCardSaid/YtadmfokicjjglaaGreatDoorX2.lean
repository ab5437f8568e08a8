/- X2: EngI: a store; an append. EngJ: what is handed to a call, and what comes back. EngK: one operation, a region in the order of its text, code. EngL: operations whose order is open: what each of them leans on. EngL2: a region whose order is open does what it does in the order of its text. -/
import Derived.Test.YtadmfokicjjglaaGreatDoorX1
import Derived.Lib.AppendStr
import Derived.Lib.ConvBytes
import Derived.Lib.AtoiErrMem
namespace Go.Proofs.YtadmfokicjjglaaGreatDoor.E
open Go.RowKit
set_option linter.unusedSimpArgs false
section
variable {P : Program} {B : Nat} {W0 : World} {ρ : Nat -> Option Place} {ok : Nat -> Prop} {w : World} {h : Heap} {n : Nat}
theorem flatten_put {rows : List (List AV)} {s r o : Nat} {row cs : List AV} (hs : ∀ x, x ∈ rows -> x.length = s) (hr : rows[r]? = some row) (ho : o + cs.length <= s) :
  (rows.set r (putCells row o cs)).flatten = rows.flatten.take (r * s + o) ++ cs ++ rows.flatten.drop (r * s + o + cs.length) := by
 induction rows generalizing r with
 | nil => simp at hr
 | cons x rows ih =>
  have hx := hs x (by simp);cases r with
  | zero =>
   simp at hr;subst hr;simp only [List.set_cons_zero, List.flatten_cons, Nat.zero_mul, Nat.zero_add, putCells];rw [List.take_append_of_le_length (by omega), List.drop_append_of_le_length (by omega)];simp
  | succ r =>
   simp only [List.set_cons_succ, List.flatten_cons];rw [ih (fun y hy => hs y (by simp [hy])) (by simpa using hr)];have e1 : (r + 1) * s + o = x.length + (r * s + o) := by rw [Nat.succ_mul, hx]; omega
   rw [e1, List.take_length_add_append, Nat.add_assoc x.length, List.drop_length_add_append];simp
theorem take_put (cur vs : List Value) (p L : Nat) (h1 : p + vs.length <= L) (h2 : L <= cur.length) :
  (cur.take p ++ vs ++ cur.drop (p + vs.length)).take L = (cur.take L).take p ++ vs ++ (cur.take L).drop (p + vs.length) := by
 apply List.ext_getElem?;intro j;simp only [List.getElem?_take, List.getElem?_append, List.getElem?_drop, List.length_append, List.length_take];have e1 : min p cur.length = p := by omega
 have e2 : min p (min L cur.length) = p := by omega
 rw [e1, e2];by_cases hj : j < L
 ·simp only [hj, if_true];by_cases h3 : j < p
  ·have : j < p + vs.length := by omega
   simp [h3, this]
  ·by_cases h4 : j < p + vs.length
   ·simp [h3, h4]
   ·simp only [h3, h4, if_false];have h5 : p + vs.length + (j - (p + vs.length)) < L := by omega
    simp [h5]
 ·simp only [hj, if_false];have h3 : ¬ j < p + vs.length := by omega
  have h4 : ¬ j < p := by omega
  have h5 : ¬ p + vs.length + (j - (p + vs.length)) < L := by omega
  simp [h3, h4, h5]
theorem HRel.rewrite (H : HRel B W0 ρ ok h n w) {i : Nat} {e : HE} (he : h i = some e) {b cap : Nat} {cur : Array Value} (hp : ρ i = some (some (b, cap, e.s))) (hB : B <= b) (hok : ¬ ok b) (hb : w.heap[b]? = some (.cells cur e.ty (0, 0)))
  {rows : List (List AV)} {cur' : Array Value} (hcs : cur'.size = cap * e.s) (hlc : rows.length <= cap) (hcm : cap <= maxLen) (hs : 0 < e.s) (hr : ∀ r, r ∈ rows -> r.length = e.s) (hcr : CR B ρ ok w rows.flatten (cur'.toList.take (rows.length * e.s))) :
  HRel B W0 ρ ok (upd h i (some ⟨e.ty, e.s, rows⟩)) n (w.setRow b cur') /\ Ext (fun _ => False) ρ ρ ok ok w (w.setRow b cur') := by
 have hother : ∀ k, k ≠ b -> (w.setRow b cur').heap[k]? = w.heap[k]? := fun k hk => setRow_other w b k cur' hk
 have hF : ∀ k, ok k -> ok k /\ (w.setRow b cur').heap[k]? = w.heap[k]? := fun k hk => ⟨hk, hother k (by intro e; subst e; exact hok hk)⟩
 have hρ : ∀ i, ρ i ≠ none -> ρ i = ρ i := fun _ _ => rfl
 have hbel : Below B w (w.setRow b cur') := ⟨rfl, rfl, rfl, by simp, fun k hk => hother k (by omega)⟩;refine ⟨⟨H.below.trans hbel, H.base, fun k hk => by simpa using H.okb k hk, H.fresh, fun j ej hj => ?_, fun i1 j1 e1 e2 b1 c1 s1 c2 s2 g1 g2 g3 g4 => ?_⟩, ⟨fun _ _ => rfl, hρ, hF, fun k hk => Or.inl hk, by simp⟩⟩
 ·by_cases hc : j = i
  ·subst hc;rw [upd_same] at hj;cases hj;exact Or.inr ⟨b, cap, cur', hp, hB, hok, setRow_heap w b cur cur' _ _ hb, hcs, hlc, hcm, hs, hr, hcr.mono hρ hF⟩
  ·rw [upd_ne _ _ hc] at hj;refine H.row_mono hρ hF hj fun b' cap' s' hb' => ?_
   rcases H.row j ej hj with ⟨q, _⟩ | ⟨b2, cap2, cur2, q1, q2, q3, q4, _⟩
   ·rw [hb'] at q; cases q
   ·rw [hb'] at q1;simp only [Option.some.injEq, Prod.mk.injEq] at q1;obtain ⟨rfl, rfl, rfl⟩ := q1;refine ⟨hother _ ?_, q3⟩;intro e2; subst e2
    exact hc (H.inj j i ej e _ _ _ _ _ hj he hb' hp)
 ·have f : ∀ k ek, upd h i (some ⟨e.ty, e.s, rows⟩) k = some ek -> ∃ ek', h k = some ek' := by
   intro k ek hk;by_cases hc : k = i
   ·subst hc; exact ⟨e, he⟩
   ·rw [upd_ne _ _ hc] at hk; exact ⟨ek, hk⟩
  obtain ⟨x, hx⟩ := f _ _ g1;obtain ⟨y, hy⟩ := f _ _ g2;exact H.inj i1 j1 x y b1 c1 s1 c2 s2 hx hy g3 g4
theorem store_sound (H : HRel B W0 ρ ok h n w) {t : TypeId} {x v : AV} {u uv : Value} {h' : Heap} (hx : V B ρ ok w x u) (hv : V B ρ ok w v uv) (he : storeA P h t x v = some h') :
  ∃ w', (Instr.storeAt t u uv).run P w = .ok () w' /\ HRel B W0 ρ ok h' n w' /\ Ext (fun _ => False) ρ ρ ok ok w w' := by
 unfold storeA at he;split at he
 ·cases he
 ·rename_i ti hti;split at he
  ·rename_i i s r o;split at he
   ·rename_i e hen;split at he
    ·rename_i hs;split at he
     ·rename_i row hrow;split at he
      ·rename_i hc;obtain ⟨hc1, hc2, hc3⟩ := hc;cases he;have hcells := cells_sound hv (by omega);rcases H.row i e hen with ⟨_, q⟩ | ⟨b, cap, cur, q1, q2, q3, q4, q5, q6, q7, q8, q9, q10⟩
       ·rw [q] at hrow; simp at hrow
       ·cases hx with
        | ptr hp =>
         rename_i b' cap';rw [hs] at q1;rw [hp] at q1;simp only [Option.some.injEq, Prod.mk.injEq] at q1;obtain ⟨rfl, rfl, -⟩ := q1;subst hs;have hrl := q9 row (List.mem_of_getElem? hrow);have hrk : r < e.rows.length := (List.getElem?_eq_some_iff.1 hrow).1;have hvl : uv.cells.toList.length = ti.size := by rw [<- hcells.1, hc1]
         have hmul : (r + 1) * e.s <= e.rows.length * e.s := Nat.mul_le_mul_right _ (by omega);have hmul2 : e.rows.length * e.s <= cap' * e.s := Nat.mul_le_mul_right _ q6;rw [Nat.succ_mul] at hmul;have hrun := run_storeCells_at P b' (r * e.s + o) e.ty uv.cells.toList 0 cur w q4 (by omega) hcells.2.1;simp only [Nat.add_zero] at hrun;have hF := flatten_put (cs := cellsA v) (o := o) q9 hrow (by omega)
         have hset : ∀ x, x ∈ e.rows.set r (putCells row o (cellsA v)) -> x.length = e.s := by
          intro y hy;rcases List.mem_or_eq_of_mem_set hy with hy | hy
          ·exact q9 y hy
          ·subst hy;simp only [putCells, List.length_append, List.length_take, List.length_drop];omega
         obtain ⟨g1, g2⟩ := H.rewrite hen (rows := e.rows.set r (putCells row o (cellsA v))) (cur' := (cur.toList.take (r * e.s + o) ++ uv.cells.toList ++ cur.toList.drop (r * e.s + o + uv.cells.toList.length)).toArray) hp q2 q3 q4
          (by simp only [List.size_toArray, List.length_append, List.length_take, List.length_drop, Array.length_toList] at *; omega) (by simpa using q6) q7 q8 hset
          (by
           rw [hF, List.length_set];simp only;rw [take_put _ _ _ _ (by omega) (by simp only [Array.length_toList]; omega)];have hl : (cellsA v).length = uv.cells.toList.length := by omega
           rw [hl]
           exact ((q10.take _).append hcells).append (q10.drop _))
         refine ⟨_, ?_, g1, g2⟩;have hus : uv.cells.size = ti.size := by simpa using hvl
         simp [Instr.storeAt, Instr.sureAddr, storeVar, run_sizeOf hti, hus, hrun]
      ·cases he
     ·cases he
    ·cases he
   ·cases he
  ·cases he
theorem HRel.put_row (H : HRel B W0 ρ ok h n w) {id : Nat} (hid : id < n) (hfree : ρ id = none) {h0 : Heap} {w' : World} {g cap s : Nat} {ty : TypeId} {cur : Array Value} {rows : List (List AV)}
  (hbel : Below B w w') (hB : B <= g) (hg : w'.heap[g]? = some (.cells cur ty (0, 0))) (hcs : cur.size = cap * s) (hlc : rows.length <= cap) (hcm : cap <= maxLen) (hs : 0 < s) (hr : ∀ r, r ∈ rows -> r.length = s)
  (hcr : CR B ρ ok w rows.flatten (cur.toList.take (rows.length * s)))
  (hh : ∀ j ej, h0 j = some ej -> h j = some ej /\ ∀ b c s, ρ j = some (some (b, c, s)) -> b ≠ g /\ w'.heap[b]? = w.heap[b]?) (hk : ∀ b, ok b -> b ≠ g /\ w'.heap[b]? = w.heap[b]?) :
  HRel B W0 (upd ρ id (some (some (g, cap, s)))) ok (upd h0 id (some ⟨ty, s, rows⟩)) n w' /\ Ext (fun i => i = id) ρ (upd ρ id (some (some (g, cap, s)))) ok ok w w' := by
 have hρ : ∀ i, ρ i ≠ none -> upd ρ id (some (some (g, cap, s))) i = ρ i := fun i hi => upd_ne _ _ (by intro e; subst e; exact hi hfree)
 have hF : ∀ b, ok b -> ok b /\ w'.heap[b]? = w.heap[b]? := fun b hb => ⟨hb, (hk b hb).2⟩
 refine ⟨⟨H.below.trans hbel, H.base, fun b hb => Nat.lt_of_lt_of_le (H.okb b hb) hbel.size, fun i hi => ?_, fun i en hi => ?_, ?_⟩, ⟨fun i hi => upd_ne _ _ hi, hρ, hF, fun b hb => Or.inl hb, hbel.size⟩⟩
 ·rw [upd_ne _ _ (by omega)]; exact H.fresh i hi
 ·by_cases hc : i = id
  ·subst hc;rw [upd_same] at hi;cases hi;exact Or.inr ⟨g, cap, cur, upd_same _ _ _, hB, fun hgk => (hk g hgk).1 rfl, hg, hcs, hlc, hcm, hs, hr, hcr.mono hρ hF⟩
  ·rw [upd_ne _ _ hc] at hi;obtain ⟨q1, q2⟩ := hh i en hi;refine H.row_mono hρ hF q1 fun b c s' hb => ⟨(q2 b c s' hb).2, ?_⟩
   rcases H.row i en q1 with ⟨q, _⟩ | ⟨b', cap', cur', p1, p2, p3, p4, _⟩
   ·rw [hb] at q; cases q
   ·rw [hb] at p1;simp only [Option.some.injEq, Prod.mk.injEq] at p1;obtain ⟨rfl, rfl, rfl⟩ := p1;exact p3
 ·intro i j ei ej b c s1 c' s2 hi hj hbi hbj;by_cases h1 : i = id <;> by_cases h2 : j = id
  ·rw [h1, h2]
  ·subst h1;rw [upd_same] at hbi;simp only [Option.some.injEq, Prod.mk.injEq] at hbi;rw [upd_ne _ _ h2] at hj hbj;exact absurd hbi.1.symm ((hh j ej hj).2 b c' s2 hbj).1
  ·subst h2;rw [upd_same] at hbj;simp only [Option.some.injEq, Prod.mk.injEq] at hbj;rw [upd_ne _ _ h1] at hi hbi;exact absurd hbj.1.symm ((hh i ei hi).2 b c s1 hbi).1
  ·rw [upd_ne _ _ h1] at hi hbi;rw [upd_ne _ _ h2] at hj hbj;exact H.inj i j ei ej b c s1 c' s2 (hh i ei hi).1 (hh j ej hj).1 hbi hbj
theorem HRel.put_none (H : HRel B W0 ρ ok h n w) {id : Nat} (hid : id < n) (hfree : ρ id = none) {h0 : Heap} (ty : TypeId) (s : Nat) (hh : ∀ j ej, h0 j = some ej -> h j = some ej) :
  HRel B W0 (upd ρ id (some none)) ok (upd h0 id (some ⟨ty, s, []⟩)) n w /\ Ext (fun i => i = id) ρ (upd ρ id (some none)) ok ok w w := by
 have hρ : ∀ i, ρ i ≠ none -> upd ρ id (some none) i = ρ i := fun i hi => upd_ne _ _ (by intro e; subst e; exact hi hfree)
 have hF : ∀ b, ok b -> ok b /\ w.heap[b]? = w.heap[b]? := fun b hb => ⟨hb, rfl⟩
 refine ⟨⟨H.below, H.base, H.okb, fun i hi => ?_, fun i en hi => ?_, ?_⟩, ⟨fun i hi => upd_ne _ _ hi, hρ, hF, fun b hb => Or.inl hb, Nat.le_refl _⟩⟩
 ·rw [upd_ne _ _ (by omega)]; exact H.fresh i hi
 ·by_cases hc : i = id
  ·subst hc;rw [upd_same] at hi;cases hi;exact Or.inl ⟨upd_same _ _ _, rfl⟩
  ·rw [upd_ne _ _ hc] at hi;refine H.row_mono hρ hF (hh i en hi) fun b c s' hb => ⟨rfl, ?_⟩
   rcases H.row i en (hh i en hi) with ⟨q, _⟩ | ⟨b', cap', cur', p1, p2, p3, p4, _⟩
   ·rw [hb] at q; cases q
   ·rw [hb] at p1;simp only [Option.some.injEq, Prod.mk.injEq] at p1;obtain ⟨rfl, rfl, rfl⟩ := p1;exact p3
 ·intro i j ei ej b c s1 c' s2 hi hj hbi hbj
  have ne : ∀ k c s, upd ρ id (some none) k = some (some (b, c, s)) -> k ≠ id := by
   intro k c s hb e; subst e; rw [upd_same] at hb; cases hb
  have h1 := ne _ _ _ hbi;have h2 := ne _ _ _ hbj;rw [upd_ne _ _ h1] at hi hbi;rw [upd_ne _ _ h2] at hj hbj;exact H.inj i j ei ej b c s1 c' s2 (hh i ei hi) (hh j ej hj) hbi hbj
theorem src_sound (H : HRel B W0 ρ ok h n w) {y : AV} {yv : Value} {s : Nat} {news : List (List AV)} (hy : V B ρ ok w y yv) (hns : ∀ b, y ≠ .at (.string b)) (he : srcRows h s y = some news) (hs : 0 < s) :
  ∃ src c nv, yv = .slice src news.length c /\ CR B ρ ok w news.flatten nv /\ (∀ r, r ∈ news -> r.length = s) /\
   (0 < news.length -> ∃ ad, src = some ad /\ ∀ (j : Nat) (u : Value), nv[j]? = some u -> w.cell? (ad.add j) = some u) := by
 unfold srcRows at he;split at he
 ·cases he;cases hy;exact ⟨_, _, [], rfl, ⟨rfl, by simp, by simp⟩, by simp, by simp⟩
 ·cases he;cases hy;exact ⟨_, _, [], rfl, ⟨rfl, by simp, by simp⟩, by simp, by simp⟩
 ·rename_i fr s' rows;split at he
  ·rename_i hss;cases he;subst hss;cases hy with
   | lst hp =>
    cases hp with
    | lst g1 g2 g3 g4 g5 g6 g7 g8 =>
     rename_i a cap us;refine ⟨a, cap, us, rfl, ⟨g5.symm, g6, fun j c u hc hu => ((g8 j c u hc hu).mono fun b hb => ⟨hb.1, rfl⟩).V⟩, g1, fun hl => ?_⟩;cases a with
     | none => have := (g4 rfl).1; subst this; simp at hl
     | some ad =>
      obtain ⟨q1, q2, q3⟩ := g7 ad rfl (by intro e; subst e; simp at hl);obtain ⟨b, off, sp⟩ := ad;simp only at q1 q3;subst q1;exact ⟨_, rfl, fun j u hj => by rw [addr_add]; exact q3 j u hj⟩
  ·cases he
 ·rename_i b;exact absurd rfl (hns b)
 ·rename_i i o m;split at he
  ·rename_i e hen;split at he
   ·rename_i hc;obtain ⟨hs1, hle⟩ := hc;cases he;subst hs1;have hlen : ((e.rows.drop o).take m).length = m := by simp; omega
    cases hy with
    | own0 hp =>
     rename_i a0;exact ⟨a0, 0, [], by simp, by simp; exact ⟨rfl, by simp, by simp⟩, by simp, by simp⟩
    | own hp q1 q2 =>
     rename_i b cap s;rcases H.row i e hen with ⟨q, _⟩ | ⟨b', cap', cur, p1, p2, p3, p4, p5, p6, p7, p8, p9, p10⟩
     ·rw [hp] at q; cases q
     ·rw [hp] at p1;simp only [Option.some.injEq, Prod.mk.injEq] at p1;obtain ⟨rfl, rfl, rfl⟩ := p1
      have hfl : ((e.rows.drop o).take m).flatten = (e.rows.flatten.drop (o * e.s)).take (m * e.s) := by
       rw [flatten_take (fun r hr => p9 r (List.mem_of_mem_drop hr)), flatten_drop p9]
      refine ⟨some ⟨b, o * e.s, none⟩, _, ((cur.toList.take (e.rows.length * e.s)).drop (o * e.s)).take (m * e.s), by rw [hlen], by rw [hfl]; exact (p10.drop _).take _, fun r hr => p9 r (List.mem_of_mem_drop (List.mem_of_mem_take hr)), fun _ => ⟨_, rfl, fun j u hj => ?_⟩⟩;rw [List.getElem?_take] at hj;split at hj
      ·rw [List.getElem?_drop, List.getElem?_take] at hj;split at hj
       ·rw [addr_add];simp only [World.cell?, p4];simpa using hj
       ·cases hj
      ·cases hj
   ·cases he
  ·cases he
 ·cases he
theorem run_append_zero {t ty e : TypeId} {i : TypeInfo} (ht : P.underlying t = some (.slice e)) (hi : P.info? e = some i) {b src : Option Addr} {k cap c : Nat} (hk : k <= cap) :
  (Builtin.append_ #[t, t] ty #[.slice b k cap, .slice src 0 c]).run P w = .ok (.slice b k cap) w := by
 cases b <;> cases src <;> simp [Builtin.append_, run_underlying ht, sizeOf, typeInfo, hi, Builtin.lenOf, Builtin.firstCells, loadCells, loadCellsFrom, storeCells, hk]
theorem run_append_str_at (w : World) (base : Nat) (t u ty e : TypeId) (i : TypeInfo) (z : Value) (ht : P.underlying t = some (.slice e)) (hu : P.underlying u = some .string) (hi : P.info? e = some i) (hz : i.zero = some z)
  (hsize : i.size = 1) (hzs : z.cells.size = 1) (v : Value) (n : Nat) (xs : List Value) (hown : w.ownsRow base e 1 v n xs) (s : ByteArray)
  (h63 : n + s.size <= maxLen) (hbytes : (n + s.size) * i.bytes <= 140737488355328) (hbase : base <= w.heap.size) :
  ∃ v' w', (Builtin.append_ #[t, u] ty #[v, .string s]).run P w = .ok v' w' /\ w'.ownsRow base e 1 v' (n + s.size) (xs ++ Lib.strCells s) /\ w.grownBy w' v.ownBlock /\
   (v'.ownBlock = v.ownBlock \/ v'.ownBlock = some w.heap.size) := by
 have hsmall : n + s.size <= 9223372036854775807 := by simp only [maxLen] at h63; omega
 have hxl : xs.length = n := by simpa using hown.1
 have hlen : (xs ++ Lib.strCells s).length = (n + s.size) * 1 := by rw [List.length_append, hxl, Lib.strCells_length, Nat.mul_one]
 have grown : ∀ (old : Nat), old < n + s.size -> ∀ (row : Option Nat),
   (w.drew.alloc (.cells (xs.toArray ++ (Lib.strCells s).toArray ++ Builtin.zeroCells z.cells (grownCap w (n + s.size) old e - (n + s.size))) e)).ownsRow base e 1
    (.slice (some ⟨w.heap.size, 0, none⟩) (n + s.size) (grownCap w (n + s.size) old e)) (n + s.size) (xs ++ Lib.strCells s) /\
   w.grownBy (w.drew.alloc (.cells (xs.toArray ++ (Lib.strCells s).toArray ++ Builtin.zeroCells z.cells (grownCap w (n + s.size) old e - (n + s.size))) e)) row := by
  intro old ho row;have hge := grownCap_ge w (n + s.size) old e;have hcm : grownCap w (n + s.size) old e <= maxLen := grownCap_le_maxLen w (n + s.size) old e h63;refine ⟨⟨hlen, .inr ⟨w.heap.size, _, _, rfl, hbase, heap_alloc_new w.drew _, hge, hcm, ?_, ?_⟩⟩, ⟨rfl, rfl, rfl, by simp, fun k hk _ => Below.heap_alloc w.drew _ k hk⟩⟩
  ·simp only [Array.size_append, List.size_toArray, size_zeroCells, hzs, hxl, Lib.strCells_length];omega
  ·simp only [Array.toList_append, List.append_assoc];rw [<- List.append_assoc, <- hlen];exact List.take_left
 rcases hown.2 with ⟨rfl, rfl⟩ | ⟨g, cap, cur, rfl, hbg, hg, hnc, hcm, hcs, htake⟩
 ·have hx : xs = [] := List.eq_nil_of_length_eq_zero hxl;subst hx;by_cases hm : s.size = 0
  ·have hn : Lib.strCells s = [] := List.eq_nil_of_length_eq_zero (by rw [Lib.strCells_length]; exact hm);refine ⟨.slice none 0 0, w, ?_, by rw [hm, hn]; exact World.ownsRow_nil w base e 1, ⟨rfl, rfl, rfl, Nat.le_refl _, fun _ _ _ => rfl⟩, Or.inl rfl⟩;have hf := Lib.run_firstCells_string (P := P) w 1 s;rw [hm] at hf;simp [Builtin.append_, run_underlying ht, run_underlying hu, sizeOf, typeInfo, hi, hsize, Builtin.lenOf, hm, hf]
  ·have hr := run_append_nil_string (P := P) w t u ty e i z ht hu hi hz s (by omega) (by omega) (by have hb := hbytes; simp only [Nat.zero_add] at hb; omega);have hgr := grown 0 (by omega) (Value.ownBlock (.slice none 0 0));simp only [Nat.zero_add, List.nil_append, Array.empty_append] at hgr ⊢
   have e1 : (s.data.map fun b => Value.int .u8 b.toNat) = (Lib.strCells s).toArray := by
    apply Array.ext';simp [Lib.strCells]
   rw [e1] at hr;exact ⟨_, _, hr, hgr.1, hgr.2, Or.inr rfl⟩
 ·by_cases hroom : n + s.size <= cap
  ·have hcs' : cur.size = cap := by simpa using hcs
   have hr := Lib.run_append_room_string (P := P) w t u ty e i ht hu hi hsize g n cap cur hg s hroom (by omega);refine ⟨_, _, hr, ⟨hlen, .inr ⟨g, cap, _, rfl, hbg, setRow_heap w g cur _ e _ hg, hroom, hcm, ?_, ?_⟩⟩, ⟨rfl, rfl, rfl, by simp, fun k _ hk => setRow_other w g k _ (fun e => hk (by simp [Value.ownBlock, e]))⟩, Or.inl rfl⟩
   ·simp only [List.size_toArray, List.length_append, List.length_take, List.length_drop, Array.length_toList, Lib.strCells_length];omega
   ·have ht' : cur.toList.take n = xs := by simpa using htake
    rw [ht', <- hlen];exact List.take_left
  ·have holds : ∀ j u, xs[j]? = some u -> w.cell? ((⟨g, 0, none⟩ : Addr).add j) = some u := hown.cells (g := g) rfl;have hr := Lib.run_append_grow_string (P := P) w t u ty e i z ht hu hi hz ⟨g, 0, none⟩ n cap xs (by rw [hsize]; simpa using hxl) holds s (by omega) (by omega) (growslice_fits (by omega) hbytes);have hgr := grown cap (by omega) (Value.ownBlock (.slice (some ⟨g, 0, none⟩) n cap));exact ⟨_, _, hr, hgr.1, hgr.2, Or.inr rfl⟩
theorem run_append_zero_str {t u ty e : TypeId} {i : TypeInfo} (ht : P.underlying t = some (.slice e)) (hu : P.underlying u = some .string) (hi : P.info? e = some i) {s : ByteArray} (hs : s.size = 0) {b : Option Addr} {k cap : Nat} (hk : k <= cap) (w : World) :
  (Builtin.append_ #[t, u] ty #[.slice b k cap, .string s]).run P w = .ok (.slice b k cap) w := by
 have hn : Lib.strCells s = [] := List.eq_nil_of_length_eq_zero (by rw [Lib.strCells_length]; exact hs);have hf := Lib.run_firstCells_string (P := P) w i.size s;rw [hs, hn] at hf;cases b <;> simp [Builtin.append_, run_underlying ht, run_underlying hu, sizeOf, typeInfo, hi, Builtin.lenOf, hs, hf, hk, storeCells]
theorem B8_flat (l : List UInt8) : (B8 l).flatten = l.map fun b => AV.at (.int .u8 b.toNat) := by
 induction l with
 | nil => rfl
 | cons b l ih =>
  show ([AV.at (.int .u8 b.toNat)] :: B8 l).flatten = _;rw [List.flatten_cons, ih];rfl
theorem B8_rows (l : List UInt8) : ∀ r, r ∈ B8 l -> r.length = 1 := by
 intro r hr;obtain ⟨b, _, rfl⟩ := List.mem_map.1 hr;rfl
theorem B8_cr (s : ByteArray) : CR B ρ ok w (B8 s.data.toList).flatten (Lib.strCells s) := by
 rw [B8_flat];refine ⟨by simp [Lib.strCells], Lib.strCells_oneCell s, fun j c u hc hu => ?_⟩;rw [List.getElem?_map] at hc;rw [Lib.strCells, List.getElem?_map] at hu;cases hq : s.data.toList[j]? with
 | none => rw [hq] at hc; cases hc
 | some b => rw [hq] at hc hu; cases hc; cases hu; exact .at rfl
theorem append_str_sound (T : TypesOk P) (H : HRel B W0 ρ ok h n w) {id : Nat} (hid : id < n) (hfree : ρ id = none) {t u ty : TypeId} {x v : AV} {s : ByteArray} {xv : Value} {h' : Heap} (hx : V B ρ ok w x xv) (hu : P.underlying u = some .string) (he : appendA P h id t x (.at (.string s)) = some (h', v)) :
  ∃ z w' ρ', (Builtin.append_ #[t, u] ty #[xv, .string s]).run P w = .ok z w' /\ HRel B W0 ρ' ok h' n w' /\ V B ρ' ok w' v z /\ Ext (fun i => i = id) ρ ρ' ok ok w w' := by
 have hbase : B <= w.heap.size := Nat.le_trans H.base.le H.below.size;unfold appendA at he;split at he
 ·rename_i el htk;have ht := tk_slice htk;cases hti : tiOf P el with
  | none => rw [hti] at he; cases he
  | some ti =>
   rw [hti] at he;simp only [Option.bind_some] at he;obtain ⟨i, d, z, q1, q2, q3, q4, q5, q6, q7⟩ := ti_info hti;obtain ⟨-, hzs⟩ := T el ti hti i z q1 q3;split at he
   ·cases he
   ·rename_i hsb;have hby : ti.bytes <= 1000 := by omega
    by_cases hs1 : ti.size = 1
    rotate_left
    ·simp [srcRows, hs1] at he
    simp only [srcRows, hs1, if_true, Option.bind_some] at he;split at he
    ·cases he
    ·rename_i hnl;rw [B8_length] at hnl;have hsz : s.data.toList.length = s.size := rfl;have hi1 : i.size = 1 := by omega
     have hz1 : z.cells.size = 1 := by omega
     have hF0 : ∀ w' : World, Below w.heap.size w w' -> ∀ b, ok b -> b ≠ w.heap.size /\ w'.heap[b]? = w.heap[b]? := fun w' hb b hbk => ⟨Nat.ne_of_lt (H.okb b hbk), hb.block b (H.okb b hbk)⟩
     have blk : ∀ j ej b c s, h j = some ej -> ρ j = some (some (b, c, s)) -> b < w.heap.size /\ ¬ ok b := by
      intro j ej b c s hj hb;rcases H.row j ej hj with ⟨q, _⟩ | ⟨b', cap', cur', p1, p2, p3, p4, _⟩
      ·rw [hb] at q; cases q
      ·rw [hb] at p1;simp only [Option.some.injEq, Prod.mk.injEq] at p1;obtain ⟨rfl, rfl, rfl⟩ := p1;exact ⟨lt_some p4, p3⟩
     have bnd : ∀ k, k <= 100000000 -> (k + s.size) * i.bytes <= 140737488355328 := by
      intro k hk;have : (k + s.size) * i.bytes <= 200000000 * 1000 := Nat.mul_le_mul (by omega) (by omega);omega
     have fin : ∀ (xs : List Value) (k : Nat) (rows0 : List (List AV)) (h0 : Heap) (xw : Value), w.ownsRow B el 1 xw k xs -> k <= 100000000 -> 0 < k + s.size -> rows0.length = k -> (∀ r, r ∈ rows0 -> r.length = 1) -> CR B ρ ok w rows0.flatten xs ->
       (∀ j ej, h0 j = some ej -> h j = some ej /\ ∀ b c s, ρ j = some (some (b, c, s)) -> xw.ownBlock ≠ some b) -> (∀ b, ok b -> xw.ownBlock ≠ some b) ->
       ∃ z w' ρ', (Builtin.append_ #[t, u] ty #[xw, .string s]).run P w = .ok z w' /\ HRel B W0 ρ' ok (upd h0 id (some ⟨el, 1, rows0 ++ B8 s.data.toList⟩)) n w' /\ V B ρ' ok w' (.own id 0 (k + s.size)) z /\ Ext (fun i => i = id) ρ ρ' ok ok w w' := by
      intro xs k rows0 h0 xw hown hk hpos hr0 hr1 hcr0 hh hkk;obtain ⟨v', w', s1, s2, s3, s5⟩ := run_append_str_at (P := P) w B t u ty el i z ht hu q1 q3 hi1 hz1 xw k xs hown s (by simp only [maxLen]; omega) (bnd k hk) hbase;obtain ⟨t1, t2⟩ := s2;rcases t2 with ⟨_, t2⟩ | ⟨g, cap', cur', rfl, t3, t4, t5, t6, t7, t8⟩
      ·omega
      ·have hgb : xw.ownBlock = some g \/ g = w.heap.size := by
        rcases s5 with s5 | s5
        ·exact Or.inl s5.symm
        ·exact Or.inr (by simpa [Value.ownBlock] using s5)
       have hblock : ∀ q, q < w.heap.size -> xw.ownBlock ≠ some q -> w'.heap[q]? = w.heap[q]? := fun q hq hne => s3.block q hq (fun e => hne e.symm)
       have hB : ∀ q, q < B -> xw.ownBlock ≠ some q := by
        intro q hq e;rcases hown.2 with ⟨rfl, _⟩ | ⟨g', cap2, cur2, rfl, hbg, _⟩
        ·cases e
        ·simp only [Value.ownBlock, Option.some.injEq] at e; omega
       have hbel : Below B w w' := ⟨s3.os, s3.tape, s3.output, s3.size, fun q hq => hblock q (by omega) (hB q hq)⟩
       obtain ⟨g1, g2⟩ := H.put_row hid hfree (h0 := h0) (w' := w') (g := g) (cap := cap') (s := 1) (ty := el) (cur := cur') (rows := rows0 ++ B8 s.data.toList) hbel t3 t4 t7 (by simp only [List.length_append, B8_length]; omega) t6 (by omega)
        (fun r hr => (List.mem_append.1 hr).elim (hr1 r) (B8_rows _ r))
        (by
         have e3 : (rows0 ++ B8 s.data.toList).length = k + s.size := by simp only [List.length_append, B8_length]; omega
         rw [e3, t8, List.flatten_append]
         exact hcr0.append (B8_cr s))
        (fun j ej hj => ⟨(hh j ej hj).1, fun bb c s hb => by
         obtain ⟨u1, _⟩ := blk j ej bb c s (hh j ej hj).1 hb;have u2 := (hh j ej hj).2 bb c s hb;refine ⟨?_, hblock bb u1 u2⟩;intro e; subst e
         rcases hgb with g | g
         ·exact u2 g
         ·omega⟩)
        (fun bb hbk => by
         have u1 := H.okb bb hbk;have u2 := hkk bb hbk;refine ⟨?_, hblock bb u1 u2⟩;intro e; subst e
         rcases hgb with g | g
         ·exact u2 g
         ·omega)
       refine ⟨_, _, _, s1, g1, ?_, g2⟩;have := V.own (B := B) (ok := ok) (w := w') (o := 0) (n := k + s.size) (upd_same ρ id (some (some (g, cap', 1)))) (by omega) t6;simpa using this
     have empty : ∀ (a0 : Option Addr) (h0 : Heap), (∀ j ej, h0 j = some ej -> h j = some ej) ->
       ∃ z w' ρ', (Builtin.append_ #[t, u] ty #[.slice a0 0 0, .string s]).run P w = .ok z w' /\ HRel B W0 ρ' ok (upd h0 id (some ⟨el, 1, B8 s.data.toList⟩)) n w' /\ V B ρ' ok w' (.own id 0 s.size) z /\ Ext (fun i => i = id) ρ ρ' ok ok w w' := by
      intro a0 h0 hh;by_cases hm : s.size = 0
      ·have hn0 : s.data.toList = [] := List.eq_nil_of_length_eq_zero hm;obtain ⟨g1, g2⟩ := H.put_none hid hfree el 1 hh;refine ⟨_, _, _, run_append_zero_str ht hu q1 hm (Nat.le_refl _) w, by rw [hn0]; exact g1, by rw [hm]; exact .own0 (upd_same _ _ _), g2⟩
      ·cases a0 with
       | none =>
        have := fin [] 0 [] h0 (.slice none 0 0) (World.ownsRow_nil w B el 1) (by omega) (by omega) rfl (by simp) ⟨rfl, by simp, by simp⟩ (fun j ej hj => ⟨hh j ej hj, fun b c s hb => by simp [Value.ownBlock]⟩) (fun b hb => by simp [Value.ownBlock]);simpa using this
       | some ad =>
        have hbn := bnd 0 (by omega);have hr := Lib.run_append_grow_string (P := P) w t u ty el i z ht hu q1 q3 ad 0 0 [] (by simp) (by simp) s (by omega) (by omega) (growslice_fits (by omega) hbn);simp only [Nat.zero_add, List.nil_append, Array.empty_append] at hr;have hge := grownCap_ge w s.size 0 el;have hcm : grownCap w s.size 0 el <= maxLen := grownCap_le_maxLen w s.size 0 el (by simp only [maxLen]; omega);have hbel : Below w.heap.size w (w.drew.alloc (.cells (#[] ++ (Lib.strCells s).toArray ++ Builtin.zeroCells z.cells (grownCap w s.size 0 el - s.size)) el)) := ((Below.refl _ w).drew).alloc (Nat.le_refl _) _;simp only [Array.empty_append] at hbel
        obtain ⟨g1, g2⟩ := H.put_row hid hfree (h0 := h0) (g := w.heap.size) (cap := grownCap w s.size 0 el) (s := 1) (ty := el) (cur := (Lib.strCells s).toArray ++ Builtin.zeroCells z.cells (grownCap w s.size 0 el - s.size)) (rows := B8 s.data.toList) (hbel.mono hbase) hbase (heap_alloc_new w.drew _)
         (by simp only [Array.size_append, List.size_toArray, size_zeroCells, hz1, Lib.strCells_length]; omega) (by rw [B8_length]; omega) hcm (by omega) (B8_rows _)
         (by
          have e3 : (B8 s.data.toList).length * 1 = (Lib.strCells s).length := by rw [B8_length, Lib.strCells_length]; omega
          rw [e3];simp only [Array.toList_append];rw [List.take_left]
          exact B8_cr s)
         (fun j ej hj => ⟨hh j ej hj, fun b c s hb => ⟨Nat.ne_of_lt (blk j ej b c s (hh j ej hj) hb).1, hbel.block b (blk j ej b c s (hh j ej hj) hb).1⟩⟩) (hF0 _ hbel)
        refine ⟨_, _, _, hr, g1, ?_, g2⟩;have := V.own (B := B) (ok := ok) (w := w.drew.alloc (.cells ((Lib.strCells s).toArray ++ Builtin.zeroCells z.cells (grownCap w s.size 0 el - s.size)) el)) (o := 0) (n := s.size) (upd_same ρ id (some (some (w.heap.size, grownCap w s.size 0 el, 1)))) (by omega) hcm;simpa using this
     split at he
     ·cases he;cases hx;rw [B8_length];exact empty _ h (fun _ _ hj => hj)
     ·rename_i i0 n0;split at he
      ·rename_i e hen;split at he
       ·rename_i hc;obtain ⟨c1, c2, c3, c4, c5⟩ := hc;simp only [Option.some.injEq, Prod.mk.injEq] at he;obtain ⟨rfl, rfl⟩ := he
        have hh0 : ∀ j ej, upd h i0 none j = some ej -> h j = some ej := by
         intro j ej hj;by_cases hji : j = i0
         ·subst hji; rw [upd_same] at hj; cases hj
         ·rw [upd_ne _ _ hji] at hj; exact hj
        rw [B8_length];cases hx with
        | own0 hp =>
         simp only [List.take_zero, List.nil_append, Nat.zero_add];exact empty _ _ hh0
        | own hp p1 p2 =>
         rename_i b cap s';rcases H.row i0 e hen with ⟨q, _⟩ | ⟨b', cap', cur, r1, r2, r3, r4, r5, r6, r7, r8, r9, r10⟩
         ·rw [hp] at q; cases q
         ·rw [hp] at r1;simp only [Option.some.injEq, Prod.mk.injEq] at r1;obtain ⟨rfl, rfl, rfl⟩ := r1;subst c1;have hes : e.s = 1 := by omega
          have hmul : n0 * e.s <= e.rows.length * e.s := Nat.mul_le_mul_right _ c3
          have hxs : CR B ρ ok w (e.rows.take n0).flatten (cur.toList.take (n0 * e.s)) := by
           rw [flatten_take r9];have := r10.take (n0 * e.s);rw [List.take_take, Nat.min_eq_left hmul] at this;exact this
          have hmul2 : e.rows.length * e.s <= cap * e.s := Nat.mul_le_mul_right _ r6;have hxl : (cur.toList.take (n0 * e.s)).length = n0 * e.s := by simp; omega
          have htake : ∀ r, r ∈ e.rows.take n0 -> r.length = 1 := fun r hr => by rw [r9 r (List.mem_of_mem_take hr), hes]
          have hother : ∀ j ej, upd h i0 none j = some ej -> h j = some ej /\ ∀ bb c s, ρ j = some (some (bb, c, s)) -> bb ≠ b := by
           intro j ej hj;refine ⟨hh0 j ej hj, fun bb c s hb e2 => ?_⟩;subst e2;have := H.inj j i0 ej e _ _ _ _ _ (hh0 j ej hj) hen hb hp;subst this;rw [upd_same] at hj; cases hj
          simp only [Nat.zero_mul, Nat.sub_zero];by_cases hm : n0 + s.size = 0
          ·have hn0 : n0 = 0 := by omega
           have hs0 : s.size = 0 := by omega
           have hsl : s.data.toList = [] := List.eq_nil_of_length_eq_zero hs0;subst hn0;have hq : e.rows.take 0 ++ B8 s.data.toList = [] := by rw [hsl]; rfl
           rw [hq]
           obtain ⟨g1, g2⟩ := H.put_row hid hfree (h0 := upd h i0 none) (w' := w) (g := b) (cap := cap) (s := 1) (ty := e.ty) (cur := cur) (rows := []) (Below.refl _ _) r2 r4 (by rw [r5, hes]) (by simp) r7 (by omega) (by simp)
            (by simp; exact ⟨rfl, by simp, by simp⟩) (fun j ej hj => ⟨(hother j ej hj).1, fun bb c s hb => ⟨(hother j ej hj).2 bb c s hb, rfl⟩⟩) (fun bb hbk => ⟨fun e2 => r3 (e2 ▸ hbk), rfl⟩)
           refine ⟨_, _, _, run_append_zero_str ht hu q1 hs0 (by omega) w, g1, ?_, g2⟩;have := V.own (B := B) (ok := ok) (w := w) (o := 0) (n := 0) (upd_same ρ id (some (some (b, cap, 1)))) (by omega) r7;simpa [hs0] using this
          ·rw [hes] at r5;have hown : w.ownsRow B e.ty 1 (.slice (some ⟨b, 0, none⟩) n0 cap) n0 (cur.toList.take (n0 * e.s)) := ⟨by rw [hxl, hes], Or.inr ⟨b, cap, cur, rfl, r2, r4, by omega, r7, r5, by rw [hes]⟩⟩
           have := fin _ n0 (e.rows.take n0) (upd h i0 none) _ hown c4 (by omega) (by simp; omega) htake hxs (fun j ej hj => ⟨(hother j ej hj).1, fun bb c s hb => by
            simp only [Value.ownBlock, ne_eq, Option.some.injEq]
            exact fun e => (hother j ej hj).2 bb c s hb e.symm⟩) (fun bb hbk => by
            simp only [Value.ownBlock, ne_eq, Option.some.injEq]
            exact fun e => r3 (e ▸ hbk))
           exact this
       ·cases he
      ·cases he
     ·cases he
 ·cases he
theorem append_empty {t ty e : TypeId} {i : TypeInfo} {z : Value} (ht : P.underlying t = some (.slice e)) (hi : P.info? e = some i) (hz : i.zero = some z) (hzs : z.cells.size = i.size) {a0 : Option Addr} {ad : Addr} {m c : Nat} {nv : List Value}
  (hl : nv.length = m * i.size) (hn : ∀ (j : Nat) (u : Value), nv[j]? = some u -> w.cell? (ad.add j) = some u) (h0 : 0 < m) (hm : m <= maxLen) (hb : m * i.bytes <= 140737488355328) :
  ∃ cap cur, (Builtin.append_ #[t, t] ty #[.slice a0 0 0, .slice (some ad) m c]).run P w = .ok (.slice (some ⟨w.heap.size, 0, none⟩) m cap) (w.drew.alloc (.cells cur e)) /\ m <= cap /\ cap <= maxLen /\ cur.size = cap * i.size /\ cur.toList.take (m * i.size) = nv := by
 have key : ∀ cur : Array Value, cur = nv.toArray ++ Builtin.zeroCells z.cells (grownCap w m 0 e - m) -> m <= grownCap w m 0 e /\ grownCap w m 0 e <= maxLen /\ cur.size = grownCap w m 0 e * i.size /\ cur.toList.take (m * i.size) = nv := by
  intro cur hc;have hge := grownCap_ge w m 0 e;refine ⟨hge, grownCap_le_maxLen w m 0 e hm, ?_, ?_⟩
  ·subst hc;simp only [Array.size_append, List.size_toArray, size_zeroCells, hzs, hl, <- Nat.add_mul];congr 1; omega
  ·subst hc;simp only [Array.toList_append];rw [<- hl];exact List.take_left
 have h63 : (m : Int) <= 9223372036854775807 := by simp only [maxLen] at hm; omega
 cases a0 with
 | none =>
  have hr := run_append_nil (P := P) w t ty e i z ht hi hz ad m c nv hl hn h0 h63 (by omega);obtain ⟨k1, k2, k3, k4⟩ := key _ rfl;exact ⟨_, _, hr, k1, k2, k3, k4⟩
 | some b =>
  have hr := run_append_grow (P := P) w t ty e i z ht hi hz b 0 0 [] (by simp) (by simp) ad m c nv hl hn (by omega) (by omega) (growslice_fits (by omega) (by rw [Nat.zero_add]; exact hb));simp only [Nat.zero_add, List.nil_append, Array.empty_append] at hr;obtain ⟨k1, k2, k3, k4⟩ := key _ rfl;exact ⟨_, _, hr, k1, k2, k3, k4⟩
theorem append_sound (T : TypesOk P) (H : HRel B W0 ρ ok h n w) {id : Nat} (hid : id < n) (hfree : ρ id = none) {t ty : TypeId} {x y v : AV} {xv yv : Value} {h' : Heap} (hx : V B ρ ok w x xv) (hy : V B ρ ok w y yv) (hns : ∀ b, y ≠ .at (.string b)) (he : appendA P h id t x y = some (h', v)) :
  ∃ z w' ρ', (Builtin.append_ #[t, t] ty #[xv, yv]).run P w = .ok z w' /\ HRel B W0 ρ' ok h' n w' /\ V B ρ' ok w' v z /\ Ext (fun i => i = id) ρ ρ' ok ok w w' := by
 have hbase : B <= w.heap.size := Nat.le_trans H.base.le H.below.size;unfold appendA at he;split at he
 ·rename_i el htk;have hu := tk_slice htk;cases hti : tiOf P el with
  | none => rw [hti] at he; cases he
  | some ti =>
   rw [hti] at he;simp only [Option.bind_some] at he;obtain ⟨i, d, z, q1, q2, q3, q4, q5, q6, q7⟩ := ti_info hti;obtain ⟨-, hzs⟩ := T el ti hti i z q1 q3;split at he
   ·cases he
   ·rename_i hsb;have hs : 0 < ti.size := by omega
    have hby : ti.bytes <= 1000 := by omega
    cases hsr : srcRows h ti.size y with
    | none => rw [hsr] at he; cases he
    | some news =>
     rw [hsr] at he;simp only [Option.bind_some] at he;split at he
     ·cases he
     ·rename_i hnl;obtain ⟨src, c, nv, rfl, hcr, hrows, hsrc⟩ := src_sound H hy hns hsr hs;have hnvl : nv.length = news.length * ti.size := by rw [<- hcr.1, flatten_length hrows]
      have hF0 : ∀ w' : World, Below w.heap.size w w' -> ∀ b, ok b -> b ≠ w.heap.size /\ w'.heap[b]? = w.heap[b]? := fun w' hb b hbk => ⟨Nat.ne_of_lt (H.okb b hbk), hb.block b (H.okb b hbk)⟩
      have blk : ∀ j ej b c s, h j = some ej -> ρ j = some (some (b, c, s)) -> b < w.heap.size /\ ¬ ok b := by
       intro j ej b c s hj hb;rcases H.row j ej hj with ⟨q, _⟩ | ⟨b', cap', cur', p1, p2, p3, p4, _⟩
       ·rw [hb] at q; cases q
       ·rw [hb] at p1;simp only [Option.some.injEq, Prod.mk.injEq] at p1;obtain ⟨rfl, rfl, rfl⟩ := p1;exact ⟨lt_some p4, p3⟩
      have empty : ∀ (a0 : Option Addr) (h0 : Heap), (∀ j ej, h0 j = some ej -> h j = some ej) ->
        ∃ z w' ρ', (Builtin.append_ #[t, t] ty #[.slice a0 0 0, .slice src news.length c]).run P w = .ok z w' /\ HRel B W0 ρ' ok (upd h0 id (some ⟨el, ti.size, news⟩)) n w' /\ V B ρ' ok w' (.own id 0 news.length) z /\ Ext (fun i => i = id) ρ ρ' ok ok w w' := by
       intro a0 h0 hh;by_cases hm : news.length = 0
       ·have hn0 : news = [] := List.eq_nil_of_length_eq_zero hm;subst hn0;obtain ⟨g1, g2⟩ := H.put_none hid hfree el ti.size hh;exact ⟨_, _, _, run_append_zero hu q1 (Nat.le_refl _), g1, .own0 (upd_same _ _ _), g2⟩
       ·obtain ⟨ad, rfl, hrd⟩ := hsrc (by omega)
        have hbn : news.length * i.bytes <= 140737488355328 := by
         have : news.length * i.bytes <= 100000000 * 1000 := Nat.mul_le_mul (by omega) (by omega);omega
        obtain ⟨cap, cur, r1, r2, r3, r4, r5⟩ := append_empty (P := P) (ty := ty) hu q1 q3 hzs (a0 := a0) (ad := ad) (m := news.length) (c := c) (nv := nv) (by rw [hnvl, q4]) hrd (by omega) (by simp only [maxLen]; omega) hbn;have hbel : Below w.heap.size w (w.drew.alloc (.cells cur el)) := ((Below.refl _ w).drew).alloc (Nat.le_refl _) _
        obtain ⟨g1, g2⟩ := H.put_row hid hfree (h0 := h0) (g := w.heap.size) (cap := cap) (s := ti.size) (ty := el) (cur := cur) (rows := news) (hbel.mono hbase) hbase (heap_alloc_new w.drew _) (by rw [r4, q4]) r2 r3 hs hrows
         (by rw [q4, r5]; exact hcr) (fun j ej hj => ⟨hh j ej hj, fun b c s hb => ⟨Nat.ne_of_lt (blk j ej b c s (hh j ej hj) hb).1, hbel.block b (blk j ej b c s (hh j ej hj) hb).1⟩⟩) (hF0 _ hbel)
        refine ⟨_, _, _, r1, g1, ?_, g2⟩;have := V.own (B := B) (ok := ok) (w := w.drew.alloc (.cells cur el)) (o := 0) (n := news.length) (upd_same ρ id (some (some (w.heap.size, cap, ti.size)))) (by omega) r3;simpa using this
      split at he
      ·cases he;cases hx;exact empty _ h (fun _ _ hj => hj)
      ·rename_i i0 n0;split at he
       ·rename_i e hen;split at he
        ·rename_i hc;obtain ⟨c1, c2, c3, c4, c5⟩ := hc;simp only [Option.some.injEq, Prod.mk.injEq] at he;obtain ⟨rfl, rfl⟩ := he
         have hh0 : ∀ j ej, upd h i0 none j = some ej -> h j = some ej := by
          intro j ej hj;by_cases hji : j = i0
          ·subst hji; rw [upd_same] at hj; cases hj
          ·rw [upd_ne _ _ hji] at hj; exact hj
         cases hx with
         | own0 hp =>
          simp only [List.take_zero, List.nil_append, Nat.zero_add];exact empty _ _ hh0
         | own hp p1 p2 =>
          rename_i b cap s;rcases H.row i0 e hen with ⟨q, _⟩ | ⟨b', cap', cur, r1, r2, r3, r4, r5, r6, r7, r8, r9, r10⟩
          ·rw [hp] at q; cases q
          ·rw [hp] at r1;simp only [Option.some.injEq, Prod.mk.injEq] at r1;obtain ⟨rfl, rfl, rfl⟩ := r1;subst c1;have htake : ∀ r, r ∈ e.rows.take n0 -> r.length = e.s := fun r hr => r9 r (List.mem_of_mem_take hr)
           have hmul : n0 * e.s <= e.rows.length * e.s := Nat.mul_le_mul_right _ c3;have hmul2 : e.rows.length * e.s <= cap * e.s := Nat.mul_le_mul_right _ r6
           have hxs : CR B ρ ok w (e.rows.take n0).flatten (cur.toList.take (n0 * e.s)) := by
            rw [flatten_take r9];have := r10.take (n0 * e.s);rw [List.take_take, Nat.min_eq_left hmul] at this;exact this
           have hxl : (cur.toList.take (n0 * e.s)).length = n0 * e.s := by simp; omega
           have hother : ∀ j ej, upd h i0 none j = some ej -> h j = some ej /\ ∀ bb c s, ρ j = some (some (bb, c, s)) -> bb ≠ b := by
            intro j ej hj;refine ⟨hh0 j ej hj, fun bb c s hb e2 => ?_⟩;subst e2;have := H.inj j i0 ej e _ _ _ _ _ (hh0 j ej hj) hen hb hp;subst this;rw [upd_same] at hj; cases hj
           simp only [Nat.zero_mul, Nat.sub_zero];by_cases hm : news.length = 0
           ·have hn0 : news = [] := List.eq_nil_of_length_eq_zero hm;subst hn0
            obtain ⟨g1, g2⟩ := H.put_row hid hfree (h0 := upd h i0 none) (w' := w) (g := b) (cap := cap) (s := e.s) (ty := e.ty) (cur := cur) (rows := e.rows.take n0 ++ []) (Below.refl _ _) r2 r4 r5 (by simp; omega) r7 r8 (by simpa using htake)
             (by simp only [List.append_nil, List.length_take]; rw [Nat.min_eq_left c3]; exact hxs) (fun j ej hj => ⟨(hother j ej hj).1, fun bb c s hb => ⟨(hother j ej hj).2 bb c s hb, rfl⟩⟩) (fun bb hbk => ⟨fun e2 => r3 (e2 ▸ hbk), rfl⟩)
            refine ⟨_, _, _, run_append_zero hu q1 (by omega), by rw [<- c2]; exact g1, ?_, g2⟩;have := V.own (B := B) (ok := ok) (w := w) (o := 0) (n := n0) (upd_same ρ id (some (some (b, cap, e.s)))) (by omega) r7;simpa using this
           ·obtain ⟨ad, rfl, hrd⟩ := hsrc (by omega);have hown : w.ownsRow B e.ty e.s (.slice (some ⟨b, 0, none⟩) n0 cap) n0 (cur.toList.take (n0 * e.s)) := ⟨hxl, Or.inr ⟨b, cap, cur, rfl, r2, r4, by omega, r7, r5, rfl⟩⟩
            have hbn : (n0 + news.length) * i.bytes <= 140737488355328 := by
             have : (n0 + news.length) * i.bytes <= 200000000 * 1000 := Nat.mul_le_mul (by omega) (by omega);omega
            obtain ⟨v', w', s1, s2, s3, s4, s5⟩ := run_append_own_at (P := P) w B t ty e.ty i z e.s i.bytes hu q1 q3 (by omega) rfl (by omega) r8 _ n0 _ hown ad news.length c nv (by rw [hnvl, c2]) hrd hcr.2.1 (by simp only [maxLen]; omega) hbn hbase;obtain ⟨t1, t2⟩ := s2;rcases t2 with ⟨_, t2⟩ | ⟨g, cap', cur', rfl, t3, t4, t5, t6, t7, t8⟩
            ·omega
            ·have hgb : g = b \/ g = w.heap.size := by
              simp only [Value.ownBlock, Option.some.injEq] at s5;exact s5
             have hblock : ∀ k, k < w.heap.size -> k ≠ b -> w'.heap[k]? = w.heap[k]? := fun k hk hne => s3.block k hk (by simp only [Value.ownBlock, ne_eq, Option.some.injEq]; exact hne)
             have hbel : Below B w w' := ⟨s3.os, s3.tape, s3.output, s3.size, fun k hk => hblock k (by omega) (by omega)⟩;have hblt := lt_some r4
             obtain ⟨g1, g2⟩ := H.put_row hid hfree (h0 := upd h i0 none) (w' := w') (g := g) (cap := cap') (s := e.s) (ty := e.ty) (cur := cur') (rows := e.rows.take n0 ++ news) hbel t3 t4 t7 (by simp only [List.length_append, List.length_take]; omega) t6 r8
              (fun r hr => (List.mem_append.1 hr).elim (fun hr => htake r hr) (fun hr => by rw [c2]; exact hrows r hr))
              (by
               have e3 : (e.rows.take n0 ++ news).length = n0 + news.length := by simp; omega
               rw [e3, t8, List.flatten_append]
               exact hxs.append hcr)
              (fun j ej hj => ⟨(hother j ej hj).1, fun bb c s hb => by
               obtain ⟨u1, _⟩ := blk j ej bb c s (hother j ej hj).1 hb;have u2 := (hother j ej hj).2 bb c s hb
               exact ⟨by omega, hblock bb u1 u2⟩⟩)
              (fun bb hbk => by
               have u1 := H.okb bb hbk;have u2 : bb ≠ b := fun e2 => r3 (e2 ▸ hbk)
               exact ⟨by omega, hblock bb u1 u2⟩)
             refine ⟨_, _, _, s1, by rw [<- c2]; exact g1, ?_, g2⟩;have := V.own (B := B) (ok := ok) (w := w') (o := 0) (n := n0 + news.length) (upd_same ρ id (some (some (g, cap', e.s)))) (by omega) t6;simpa using this
        ·cases he
       ·cases he
      ·cases he
 ·cases he
end
end Go.Proofs.YtadmfokicjjglaaGreatDoor.E
namespace Go.Proofs.YtadmfokicjjglaaGreatDoor.E
open Go.RowKit
section
variable {P : Program} {B : Nat} {W0 : World} {ρ : Nat -> Option Place} {ok : Nat -> Prop} {w : World} {h : Heap} {n : Nat}
theorem mapM_length {α β : Type} {f : α -> Option β} : ∀ {xs : List α} {ys : List β}, xs.mapM f = some ys -> ys.length = xs.length
 | [], ys, h => by simp at h; subst h; rfl
 | x :: xs, ys, h => by
  simp only [List.mapM_cons, Option.bind_eq_bind, Option.pure_def] at h;cases hx : f x with
  | none => simp [hx] at h
  | some b =>
   cases hr : xs.mapM f with
   | none => simp [hx, hr] at h
   | some rest =>
    simp [hx, hr] at h;subst h;simp [mapM_length hr]
theorem mapM_append {α β : Type} {f : α -> Option β} : ∀ {xs ys : List α} {a b : List β}, xs.mapM f = some a -> ys.mapM f = some b -> (xs ++ ys).mapM f = some (a ++ b)
 | [], ys, a, b, h, g => by simp at h; subst h; simpa using g
 | x :: xs, ys, a, b, h, g => by
  simp only [List.mapM_cons, Option.bind_eq_bind, Option.pure_def] at h;cases hx : f x with
  | none => simp [hx] at h
  | some c =>
   cases hr : xs.mapM f with
   | none => simp [hx, hr] at h
   | some rest =>
    simp [hx, hr] at h;subst h;simp [List.mapM_cons, hx, mapM_append hr g]
theorem mapM_flatten {α β : Type} {f : α -> Option β} : ∀ {rows : List (List α)} {rows' : List (List β)}, (rows.mapM fun r => r.mapM f) = some rows' -> rows.flatten.mapM f = some rows'.flatten
 | [], rows', h => by simp at h; subst h; simp
 | r :: rows, rows', h => by
  simp only [List.mapM_cons, Option.bind_eq_bind, Option.pure_def] at h;cases hx : r.mapM f with
  | none => simp [hx] at h
  | some c =>
   cases hr : rows.mapM (fun r => r.mapM f) with
   | none => simp [hx, hr] at h
   | some rest =>
    simp [hx, hr] at h;subst h;simp only [List.flatten_cons];exact mapM_append hx (mapM_flatten hr)
def Shown (ρ : Nat -> Option Place) (ok : Nat -> Prop) (h : Heap) (av : List Nat) (b : Nat) : Prop := ok b \/ ∃ i e c s, h i = some e /\ i ∉ av /\ ρ i = some (some (b, c, s))
theorem own_show (H : HRel B W0 ρ ok h n w) {av : List Nat} {d i o m : Nat} {e : HE} {v : Value} {rows' : List (List AV)} {G : Nat -> Prop} (hen : h i = some e) (hle : o + m <= e.rows.length)
  (hm : ((e.rows.drop o).take m).mapM (fun (r : List AV) => r.mapM (leafP h av d)) = some rows') (hv : V B ρ ok w (.own i o m) v) (hG : ∀ b c s, ρ i = some (some (b, c, s)) -> G b)
  (hcell : ∀ x c' u, x ∈ e.rows.flatten -> leafP h av d x = some c' -> V B ρ ok w x u -> PV G w c' u) : PV G w (.lst false e.s rows') v := by
 have hlen := mapM_length hm;have hlen2 : ((e.rows.drop o).take m).length = m := by simp; omega
 rw [hlen2] at hlen;have hfm := mapM_flatten hm;cases hv with
 | own0 hp =>
  have : rows' = [] := List.eq_nil_of_length_eq_zero hlen;subst this;exact PV.lst (us := []) (by simp) (by simp) (by simp) (fun _ => ⟨rfl, rfl⟩) (by simp) (by simp) (fun _ _ hn => absurd rfl hn) (by simp)
 | own hp q1 q2 =>
  rename_i b cap s;rcases H.row i e hen with ⟨q, _⟩ | ⟨b', cap', cur, p1, p2, p3, p4, p5, p6, p7, p8, p9, p10⟩
  ·rw [hp] at q; cases q
  ·rw [hp] at p1;simp only [Option.some.injEq, Prod.mk.injEq] at p1;obtain ⟨rfl, rfl, rfl⟩ := p1;have hu : ∀ r, r ∈ (e.rows.drop o).take m -> r.length = e.s := fun r hr => p9 r (List.mem_of_mem_drop (List.mem_of_mem_take hr))
   have hfl : ((e.rows.drop o).take m).flatten = (e.rows.flatten.drop (o * e.s)).take (m * e.s) := by
    rw [flatten_take (fun r hr => p9 r (List.mem_of_mem_drop hr)), flatten_drop p9]
   have hcr := (p10.drop (o * e.s)).take (m * e.s);rw [<- hfl] at hcr
   have hr' : ∀ r, r ∈ rows' -> r.length = e.s := by
    intro r hr;obtain ⟨k, hk⟩ := List.mem_iff_getElem?.1 hr;obtain ⟨x, hx, hfx⟩ := mapM_get hm k r hk;rw [mapM_length hfx];exact hu x (List.mem_of_getElem? hx)
   rw [<- hlen];refine PV.lst (us := ((cur.toList.take (e.rows.length * e.s)).drop (o * e.s)).take (m * e.s)) hr' (by omega) (by omega) (fun e => by cases e) ?_ hcr.2.1 (fun ad e1 _ => ?_) (fun j c u hc hu' => ?_)
   ·rw [<- hcr.1, mapM_length hfm]
   ·cases e1;refine ⟨rfl, hG _ _ _ hp, fun j u hj => ?_⟩;rw [List.getElem?_take] at hj;split at hj
    ·rw [List.getElem?_drop, List.getElem?_take] at hj;split at hj
     ·simp only [World.cell?, p4];simpa using hj
     ·cases hj
    ·cases hj
   ·obtain ⟨x, hx, hfx⟩ := mapM_get hfm j c hc;refine hcell x c u ?_ hfx (hcr.2.2 j x u hx hu');have := List.mem_of_getElem? hx;rw [hfl] at this;exact List.mem_of_mem_drop (List.mem_of_mem_take this)
theorem leafP_sound (H : HRel B W0 ρ ok h n w) {av : List Nat} : ∀ {d : Nat} {a a' : AV} {v : Value}, leafP h av d a = some a' -> V B ρ ok w a v -> PV (Shown ρ ok h av) w a' v
 | d, .at v, a', u, he, hv => by
  cases d <;> (simp [leafP] at he; subst he; cases hv with | «at» h1 => exact .at h1)
 | d, .nl, a', u, he, hv => by
  cases d <;> (simp [leafP] at he; subst he; cases hv; exact .nl)
 | d, .lst fr s rows, a', u, he, hv => by
  cases d <;> (simp [leafP] at he; subst he; cases hv with | lst hp => exact hp.mono fun b hb => ⟨Or.inl hb.1, rfl⟩)
 | 0, .own i o m, a', u, he, hv => by simp [leafP] at he
 | d + 1, .own i o m, a', u, he, hv => by
  simp only [leafP] at he;split at he
  ·cases he
  ·rename_i hav;split at he
   ·rename_i e hen;split at he
    ·rename_i hle;cases hm : ((e.rows.drop o).take m).mapM (fun (r : List AV) => r.mapM (leafP h av d)) with
     | none => rw [hm] at he; cases he
     | some rows' =>
      rw [hm] at he;cases he;exact own_show H hen hle hm hv (fun b c s hb => Or.inr ⟨i, e, c, s, hen, by simpa using hav, hb⟩) (fun x c' u _ h1 h2 => leafP_sound H h1 h2)
    ·cases he
   ·cases he
 | d, .und, _, _, he, _ => by cases d <;> simp [leafP] at he
 | d, .nilv, _, _, he, _ => by cases d <;> simp [leafP] at he
 | d, .nn, _, _, he, _ => by cases d <;> simp [leafP] at he
 | d, .rp _, _, _, he, _ => by cases d <;> simp [leafP] at he
 | d, .ptr _ _ _ _, _, _, he, _ => by cases d <;> simp [leafP] at he
 | d, .agg _, _, _, he, _ => by cases d <;> simp [leafP] at he
 | d, .tup _, _, _, he, _ => by cases d <;> simp [leafP] at he
 | d, .fn _ _, _, _, he, _ => by cases d <;> simp [leafP] at he
 | d, .err, _, _, he, _ => by cases d <;> simp [leafP] at he
theorem shown_lt (H : HRel B W0 ρ ok h n w) {av : List Nat} {b : Nat} (hb : Shown ρ ok h av b) : b < w.heap.size := by
 rcases hb with hb | ⟨i, e, c, s, h1, _, h2⟩
 ·exact H.okb b hb
 ·rcases H.row i e h1 with ⟨q, _⟩ | ⟨b', cap', cur, p1, p2, p3, p4, _⟩
  ·rw [h2] at q; cases q
  ·rw [h2] at p1;simp only [Option.some.injEq, Prod.mk.injEq] at p1;obtain ⟨rfl, rfl, rfl⟩ := p1;exact lt_some p4
theorem leafV_sound (H : HRel B W0 ρ ok h n w) {a a' : AV} {v : Value} (he : leafV h a = some a') (hv : V B ρ ok w a v) : V 0 noPlace (fun b => b < w.heap.size) w a' v := by
 unfold leafV at he;split at he
 ·cases he;cases hv with
  | fn h1 h2 => exact .fn h1 (by simp)
 ·exact ((leafP_sound H he hv).mono fun b hb => ⟨shown_lt H hb, rfl⟩).V
theorem leafV_plain {a a' : AV} {v : Value} (he : leafV h a = some a') (hp : plainLeaf a = true) (hv : V B ρ ok w a v) : V 0 noPlace ok w a' v := by
 unfold leafV at he;split at he
 ·cases he;cases hv with
  | fn h1 h2 => exact .fn h1 (by simp)
 ·cases a <;> simp [plainLeaf] at hp <;> simp [leafP] at he
  ·subst he; cases hv with | «at» h1 => exact .at h1
  ·subst he; cases hv; exact .nl
  ·subst he; cases hv with | lst hq => exact .lst (hq.mono fun b hb => ⟨⟨hb.1, fun e => by cases e⟩, rfl⟩)
theorem view_any (H : HRel B W0 ρ ok h n w) {a a' : AV} {v : Value} (he : viewV h a = some a') (hv : V B ρ ok w a v) : V 0 noPlace (fun b => b < w.heap.size) w a' v := by
 unfold viewV at he;split at he
 ·rename_i l;cases hm : l.mapM (leafV h) with
  | none => rw [hm] at he; cases he
  | some l' =>
   rw [hm] at he;cases he;cases hv with
   | agg h1 h2 h3 =>
    refine .agg (by rw [mapM_length hm]; exact h1) h2 (fun j c u hc hu => ?_);obtain ⟨x, hx, hfx⟩ := mapM_get hm j c hc;exact leafV_sound H hfx (h3 j x u hx hu)
 ·exact leafV_sound H he hv
theorem view_plain {a a' : AV} {v : Value} (he : viewV h a = some a') (hp : plainV a = true) (hv : V B ρ ok w a v) : V 0 noPlace ok w a' v := by
 unfold viewV at he;split at he
 ·rename_i l;have hp' := List.all_eq_true.1 (show l.all plainLeaf = true from hp);cases hm : l.mapM (leafV h) with
  | none => rw [hm] at he; cases he
  | some l' =>
   rw [hm] at he;cases he;cases hv with
   | agg h1 h2 h3 =>
    refine .agg (by rw [mapM_length hm]; exact h1) h2 (fun j c u hc hu => ?_);obtain ⟨x, hx, hfx⟩ := mapM_get hm j c hc;exact leafV_plain hfx (hp' x (List.mem_of_getElem? hx)) (h3 j x u hx hu)
 ·rename_i hna
  have : plainLeaf a = true := by
   unfold plainV at hp;split at hp
   ·rename_i l; exact absurd rfl (hna l)
   ·exact hp
  exact leafV_plain he this hv
theorem views_sound (H : HRel B W0 ρ ok h n w) {args args' : List AV} {vs : List Value} (he : args.mapM (viewV h) = some args') (hv : VL B ρ ok w args vs) : VL 0 noPlace (fun b => b < w.heap.size) w args' vs := by
 refine ⟨by rw [mapM_length he]; exact hv.1, fun j c u hc hu => ?_⟩;obtain ⟨x, hx, hfx⟩ := mapM_get he j c hc;exact view_any H hfx (hv.2 j x u hx hu)
theorem views_plain {args args' : List AV} {vs : List Value} (he : args.mapM (viewV h) = some args') (hp : args.all plainV = true) (hv : VL B ρ ok w args vs) : VL 0 noPlace ok w args' vs := by
 refine ⟨by rw [mapM_length he]; exact hv.1, fun j c u hc hu => ?_⟩;obtain ⟨x, hx, hfx⟩ := mapM_get he j c hc;exact view_plain hfx (List.all_eq_true.1 hp x (List.mem_of_getElem? hx)) (hv.2 j x u hx hu)
section back
variable {B' id m : Nat} {ρr ρ' : Nat -> Option Place} {okr ok' : Nat -> Prop}
theorem leaf_back (hB : B <= B') (hρ : ∀ i, ρr i ≠ none -> ρ' (id + i) = ρr i) (hok : ∀ b, okr b -> B' <= b -> ok' b) {a : AV} {v : Value} (hres : resLeaf a = true) (hc : newLeaf a = true \/ ∀ b, okr b -> ok' b) (hv : V B' ρr okr w a v) :
  V B ρ' ok' w (shiftLeaf id a) v := by
 cases a <;> simp [resLeaf] at hres <;> simp only [shiftLeaf]
 ·cases hv; exact .und
 ·cases hv with | «at» h1 => exact .at h1
 ·cases hv; exact .nl
 ·rename_i fr s rows;cases hv with
  | lst hp =>
   refine .lst (hp.mono fun b hb => ⟨⟨?_, fun e => Nat.le_trans hB (hb.2 e)⟩, rfl⟩);rcases hc with hc | hc
   ·exact hok b hb.1 (hb.2 (by simpa [newLeaf] using hc))
   ·exact hc b hb.1
 ·cases hv with
  | own0 hp => exact .own0 ((hρ _ (by rw [hp]; simp)).trans hp)
  | own hp h1 h2 => exact .own ((hρ _ (by rw [hp]; simp)).trans hp) h1 h2
 ·subst hres;cases hv with
  | fn h1 h2 => exact .fn h1 (by simp)
 ·cases hv; exact .err
theorem agg_back (hB : B <= B') (hρ : ∀ i, ρr i ≠ none -> ρ' (id + i) = ρr i) (hok : ∀ b, okr b -> B' <= b -> ok' b) {a : AV} {v : Value} (hres : resAgg a = true) (hc : newAgg a = true \/ ∀ b, okr b -> ok' b) (hv : V B' ρr okr w a v) :
  V B ρ' ok' w (shiftAgg id a) v := by
 unfold shiftAgg;split
 ·rename_i l;have hr := List.all_eq_true.1 (show l.all resLeaf = true from hres);cases hv with
  | agg h1 h2 h3 =>
   refine .agg (by simpa using h1) h2 (fun j c u hcj hu => ?_);rw [List.getElem?_map] at hcj;cases hx : l[j]? with
   | none => rw [hx] at hcj; cases hcj
   | some x =>
    rw [hx] at hcj;cases hcj;refine leaf_back hB hρ hok (hr x (List.mem_of_getElem? hx)) ?_ (h3 j x u hx hu);rcases hc with hc | hc
    ·exact Or.inl (List.all_eq_true.1 (show l.all newLeaf = true from hc) x (List.mem_of_getElem? hx))
    ·exact Or.inr hc
 ·rename_i hna;have e1 : resAgg a = resLeaf a := by unfold resAgg; split; (rename_i l; exact absurd rfl (hna l)); rfl
  have e2 : newAgg a = newLeaf a := by unfold newAgg; split; (rename_i l; exact absurd rfl (hna l)); rfl
  rw [e1] at hres;rw [e2] at hc;exact leaf_back hB hρ hok hres hc hv
theorem res_back (hB : B <= B') (hρ : ∀ i, ρr i ≠ none -> ρ' (id + i) = ρr i) (hok : ∀ b, okr b -> B' <= b -> ok' b) {a : AV} {v : Value} (hres : resV a = true) (hc : newV a = true \/ ∀ b, okr b -> ok' b) (hv : V B' ρr okr w a v) :
  V B ρ' ok' w (shiftV id a) v := by
 unfold shiftV;split
 ·rename_i l;have hr := List.all_eq_true.1 (show l.all resAgg = true from hres);cases hv with
  | tup h1 h3 =>
   refine .tup (by simpa using h1) (fun j c u hcj hu => ?_);rw [List.getElem?_map] at hcj;cases hx : l[j]? with
   | none => rw [hx] at hcj; cases hcj
   | some x =>
    rw [hx] at hcj;cases hcj;refine agg_back hB hρ hok (hr x (List.mem_of_getElem? hx)) ?_ (h3 j x u hx hu);rcases hc with hc | hc
    ·exact Or.inl (List.all_eq_true.1 (show l.all newAgg = true from hc) x (List.mem_of_getElem? hx))
    ·exact Or.inr hc
 ·rename_i hna;have e1 : resV a = resAgg a := by unfold resV; split; (rename_i l; exact absurd rfl (hna l)); rfl
  have e2 : newV a = newAgg a := by unfold newV; split; (rename_i l; exact absurd rfl (hna l)); rfl
  rw [e1] at hres;rw [e2] at hc;exact agg_back hB hρ hok hres hc hv
end back
theorem updL_get (h : Heap) : ∀ (l : List HE) (k i : Nat), updL h k l i = if k <= i /\ i < k + l.length then l[i - k]? else h i
 | [], k, i => by simp [updL]; omega
 | e :: l, k, i => by
  simp only [updL];rw [updL_get (upd h k (some e)) l (k + 1) i];by_cases h1 : i = k
  ·subst h1; simp [upd]; intro h2; omega
  ·by_cases h2 : k + 1 <= i /\ i < k + 1 + l.length
   ·have h3 : k <= i /\ i < k + (e :: l).length := by simp; omega
    rw [if_pos h2, if_pos h3];have : i - k = (i - (k + 1)) + 1 := by omega
    rw [this]; simp
   ·have h3 : ¬ (k <= i /\ i < k + (e :: l).length) := by simp; omega
    rw [if_neg h2, if_neg h3, upd_ne _ _ h1]
theorem call_sound (H : HRel B W0 ρ ok h n w) {f : FuncId} {args args' : List AV} {vs : List Value} {r : AV} {news : List HE} {id : Nat} (hid : id + 4 <= n) (hfree : ∀ j, j < 4 -> ρ (id + j) = none) (hv : VL B ρ ok w args vs)
  (hview : args.mapM (viewV h) = some args') (hC : C P f args' r news) (hcond : (newV r = true /\ newNews news = true) \/ args.all plainV = true) (hl : news.length <= 4) :
  Calls P f vs.toArray w fun e w' => ∃ v ρ' ok', e = .returned v /\ HRel B W0 ρ' ok' (updL h id news) n w' /\ V B ρ' ok' w' (shiftV id r) v /\ Ext (fun i => id <= i /\ i < id + 4) ρ ρ' ok ok' w w' := by
 obtain ⟨-, hres, hpn, hcall⟩ := hC;have hbase : B <= w.heap.size := Nat.le_trans H.base.le H.below.size
 obtain ⟨F, hF1, hF2, hF3⟩ : ∃ F : Nat -> Prop, (∀ b, F b -> b < w.heap.size) /\ VL 0 noPlace F w args' vs /\ ((newV r = true /\ newNews news = true) \/ ∀ b, F b -> ok b) := by
  rcases hcond with hc | hc
  ·exact ⟨_, fun b hb => hb, views_sound H hview hv, Or.inl hc⟩
  ·exact ⟨ok, H.okb, views_plain hview hc hv, Or.inr fun b hb => hb⟩
 refine (hcall F w vs hF1 ((H.base.glob.go H.below).up hbase) hF2).mono ?_;rintro e w' ⟨v, ρr, okr, rfl, Hr, hvr, hokr⟩;have hbel := Hr.below
 let ok' : Nat -> Prop := fun b => ok b \/ (okr b /\ w.heap.size <= b)
 let ρ' : Nat -> Option Place := fun i => if id <= i /\ i < id + news.length then ρr (i - id) else ρ i
 have hρr : ∀ i, ρr i ≠ none -> ρ' (id + i) = ρr i := by
  intro i hi
  have : i < news.length := by
   rcases Nat.lt_or_ge i news.length with g | g
   ·exact g
   ·exact absurd (Hr.fresh i g) hi
  show (if id <= id + i /\ id + i < id + news.length then ρr (id + i - id) else ρ (id + i)) = _;rw [if_pos (by omega)]; congr 1; omega
 have hρo : ∀ i, ρ i ≠ none -> ρ' i = ρ i := by
  intro i hi;show (if id <= i /\ i < id + news.length then ρr (i - id) else ρ i) = _;rw [if_neg];intro hc;have := hfree (i - id) (by omega);rw [show id + (i - id) = i by omega] at this;exact hi this
 have hstay : ∀ b, ok b -> ok' b /\ w'.heap[b]? = w.heap[b]? := fun b hb => ⟨Or.inl hb, hbel.block b (H.okb b hb)⟩
 have hcc : newV r = true \/ ∀ b, okr b -> ok' b := by
  rcases hF3 with hc | hc
  ·exact Or.inl hc.1
  ·refine Or.inr fun b hb => ?_
   rcases hokr b hb with g | g
   ·exact Or.inl (hc b g)
   ·exact Or.inr ⟨hb, g⟩
 have hlt : ∀ j ej b c s, h j = some ej -> ρ j = some (some (b, c, s)) -> b < w.heap.size /\ ¬ ok b := by
  intro j ej b c s hj hb;rcases H.row j ej hj with ⟨q, _⟩ | ⟨b', cap', cur', p1, p2, p3, p4, _⟩
  ·rw [hb] at q; cases q
  ·rw [hb] at p1;simp only [Option.some.injEq, Prod.mk.injEq] at p1;obtain ⟨rfl, rfl, rfl⟩ := p1;exact ⟨lt_some p4, p3⟩
 have hge : ∀ j ej b c s, news[j]? = some ej -> ρr j = some (some (b, c, s)) -> w.heap.size <= b := by
  intro j ej b c s hj hb;rcases Hr.row j ej hj with ⟨q, _⟩ | ⟨b', cap', cur', p1, p2, p3, p4, _⟩
  ·rw [hb] at q; cases q
  ·rw [hb] at p1;simp only [Option.some.injEq, Prod.mk.injEq] at p1;obtain ⟨rfl, rfl, rfl⟩ := p1;exact p2
 have get : ∀ i en, updL h id news i = some en -> (∃ j, i = id + j /\ j < news.length /\ news[j]? = some en /\ ρ' i = ρr j) \/ (h i = some en /\ ¬ (id <= i /\ i < id + news.length) /\ ρ' i = ρ i) := by
  intro i en hi;rw [updL_get] at hi;split at hi
  ·rename_i hc;refine Or.inl ⟨i - id, by omega, by omega, hi, ?_⟩;show (if id <= i /\ i < id + news.length then ρr (i - id) else ρ i) = _;rw [if_pos hc]
  ·rename_i hc;refine Or.inr ⟨hi, hc, ?_⟩;show (if id <= i /\ i < id + news.length then ρr (i - id) else ρ i) = _;rw [if_neg hc]
 refine ⟨v, ρ', ok', rfl, ⟨H.below.trans (hbel.mono hbase), H.base, fun b hb => ?_, fun i hi => ?_, fun i en hi => ?_, ?_⟩, res_back hbase hρr (fun b hb g => Or.inr ⟨hb, g⟩) hres hcc hvr, ⟨fun i hi => ?_, hρo, hstay, fun b hb => ?_, hbel.size⟩⟩
 ·rcases hb with hb | hb
  ·exact Nat.lt_of_lt_of_le (H.okb b hb) hbel.size
  ·exact Hr.okb b hb.1
 ·show (if id <= i /\ i < id + news.length then ρr (i - id) else ρ i) = _;rw [if_neg (by omega)]; exact H.fresh i hi
 ·rcases get i en hi with ⟨j, rfl, hj, hnj, hpl⟩ | ⟨hh, hnc, hpl⟩
  ·rcases Hr.row j en hnj with ⟨q1, q2⟩ | ⟨b, cap, cur, q1, q2, q3, q4, q5, q6, q7, q8, q9, q10⟩
   ·exact Or.inl ⟨hpl.trans q1, q2⟩
   ·refine Or.inr ⟨b, cap, cur, hpl.trans q1, Nat.le_trans hbase q2, ?_, q4, q5, q6, q7, q8, q9, ⟨q10.1, q10.2.1, fun k c u hc hu => ?_⟩⟩
    ·rintro (g | g)
     ·have := H.okb b g; omega
     ·exact q3 g.1
    ·have hcell := q10.2.2 k c u hc hu;obtain ⟨row, hrow, hcm⟩ := List.mem_flatten.1 (List.mem_of_getElem? hc)
     have hpl2 : plainCell c = true := by
      have := List.all_eq_true.1 hpn en (List.mem_of_getElem? hnj);have := List.all_eq_true.1 this row hrow;exact List.all_eq_true.1 this c hcm
     have hnw : newLeaf c = true \/ ∀ b, okr b -> ok' b := by
      rcases hF3 with hc' | hc'
      ·have := List.all_eq_true.1 hc'.2 en (List.mem_of_getElem? hnj);have := List.all_eq_true.1 this row hrow;exact Or.inl (List.all_eq_true.1 this c hcm)
      ·refine Or.inr fun b hb => ?_
       rcases hokr b hb with g | g
       ·exact Or.inl (hc' b g)
       ·exact Or.inr ⟨hb, g⟩
     have hres2 : resLeaf c = true := by cases c <;> simp [plainCell] at hpl2 <;> rfl
     have hsh : shiftLeaf id c = c := by cases c <;> simp [plainCell] at hpl2 <;> rfl
     have := leaf_back (B := B) hbase hρr (fun b hb g => Or.inr ⟨hb, g⟩) hres2 hnw hcell;rw [hsh] at this;exact this
  ·have := H.row_mono (ok' := ok') (w' := w') hρo hstay hh fun b c s hb => ⟨hbel.block b (hlt i en b c s hh hb).1, by
    rintro (g | g)
    ·exact (hlt i en b c s hh hb).2 g
    ·have := (hlt i en b c s hh hb).1; omega⟩
   exact this
 ·intro i j ei ej b c s c' s' hi hj hbi hbj;rcases get i ei hi with ⟨i1, rfl, hi1, hni, hpi⟩ | ⟨hhi, hnci, hpi⟩ <;> rcases get j ej hj with ⟨j1, rfl, hj1, hnj, hpj⟩ | ⟨hhj, hncj, hpj⟩
  ·rw [hpi] at hbi;rw [hpj] at hbj;rw [Hr.inj i1 j1 ei ej b c s c' s' hni hnj hbi hbj]
  ·rw [hpi] at hbi;rw [hpj] at hbj;have g1 := hge i1 ei b c s hni hbi;have g2 := (hlt j ej b c' s' hhj hbj).1;omega
  ·rw [hpi] at hbi;rw [hpj] at hbj;have g1 := hge j1 ej b c' s' hnj hbj;have g2 := (hlt i ei b c s hhi hbi).1;omega
  ·rw [hpi] at hbi;rw [hpj] at hbj;exact H.inj i j ei ej b c s c' s' hhi hhj hbi hbj
 ·show (if id <= i /\ i < id + news.length then ρr (i - id) else ρ i) = _;rw [if_neg (by omega)]
 ·rcases hb with hb | hb
  ·exact Or.inl hb
  ·exact Or.inr hb.2
end
end Go.Proofs.YtadmfokicjjglaaGreatDoor.E
namespace Go.Proofs.YtadmfokicjjglaaGreatDoor.E
open Go.RowKit
section
variable {P : Program} {B : Nat} {W0 : World} {nt : Nat}
theorem Rl.put {ρ ρ' : Nat -> Option Place} {ok ok' : Nat -> Prop} {w w' : World} {st : St} {a : Act} {U : Nat -> Prop} (R : Rl B W0 ρ ok nt st a w) (x : Ext U ρ ρ' ok ok' w w') {h' : Heap} {n' : Nat} (H : HRel B W0 ρ' ok' h' n' w')
  {d : Option Tmp} (hd : ∀ k, d = some k -> k < nt) {r : AV} {z : Value} (hr : V B ρ' ok' w' r z) : Rl B W0 ρ' ok' nt (St.put ⟨st.t, h', n'⟩ d r) (a.put d z) w' := by
 cases d with
 | none => exact ⟨H, fun k => (R.tmps k).ext x, R.size, R.defers⟩
 | some d =>
  refine ⟨H, fun k => ?_, by simpa [Act.put] using R.size, R.defers⟩;have hlt := hd d rfl;show V B ρ' ok' w' (upd st.t d r k) ((a.tmps.setIfInBounds d z).getD k undef);by_cases hk : k = d
  ·subst hk;rw [upd_same];have : (a.tmps.setIfInBounds k z).getD k undef = z := by simp [R.size, hlt]
   rw [this]; exact hr
  ·rw [upd_ne _ _ hk];have : (a.tmps.setIfInBounds d z).getD k undef = a.tmps.getD k undef := by simp [Array.getElem?_setIfInBounds_ne (Ne.symm hk)]
   rw [this]; exact (R.tmps k).ext x
theorem HRel.grow {ρ : Nat -> Option Place} {ok : Nat -> Prop} {w : World} {h : Heap} {n : Nat} (H : HRel B W0 ρ ok h n w) {w' : World} (hb : Below w.heap.size w w') :
  HRel B W0 ρ (fun x => ok x \/ (w.heap.size <= x /\ x < w'.heap.size)) h n w' /\ Ext (fun _ => False) ρ ρ ok (fun x => ok x \/ (w.heap.size <= x /\ x < w'.heap.size)) w w' := by
 have hbase : B <= w.heap.size := Nat.le_trans H.base.le H.below.size;have hρ : ∀ i, ρ i ≠ none -> ρ i = ρ i := fun _ _ => rfl
 have hF : ∀ b, ok b -> (ok b \/ (w.heap.size <= b /\ b < w'.heap.size)) /\ w'.heap[b]? = w.heap[b]? := fun b hbk => ⟨Or.inl hbk, hb.block b (H.okb b hbk)⟩
 refine ⟨⟨H.below.trans (hb.mono hbase), H.base, fun b hbk => ?_, H.fresh, fun i en hi => ?_, H.inj⟩, ⟨fun _ _ => rfl, hρ, hF, fun b hbk => ?_, hb.size⟩⟩
 ·rcases hbk with g | g
  ·exact Nat.lt_of_lt_of_le (H.okb b g) hb.size
  ·exact g.2
 ·refine H.row_mono (ok' := fun x => ok x \/ (w.heap.size <= x /\ x < w'.heap.size)) hρ hF hi fun b c s hbp => ?_
  rcases H.row i en hi with ⟨q, _⟩ | ⟨b', cap', cur', p1, p2, p3, p4, _⟩
  ·rw [hbp] at q; cases q
  ·rw [hbp] at p1;simp only [Option.some.injEq, Prod.mk.injEq] at p1;obtain ⟨rfl, rfl, rfl⟩ := p1;have hlt := lt_some p4;exact ⟨hb.block b hlt, fun g => g.elim p3 (fun g => by omega)⟩
 ·rcases hbk with g | g
  ·exact Or.inl g
  ·exact Or.inr g.1
theorem conv_new_sound {ρ : Nat -> Option Place} {ok : Nat -> Prop} {w : World} {st : St} {a : Act} (R : Rl B W0 ρ ok nt st a w) {o : Oper} (hok : opOk o.op = true) (hn : convNew P o.op = true) {r : AV} (he : valA P st.t st.h o.op = some r) :
  ∃ z w' ok', (execOp a.eval o).run P w = .ok (.value z) w' /\ HRel B W0 ρ ok' st.h st.n w' /\ V B ρ ok' w' r z /\ Ext (fun _ => False) ρ ρ ok ok' w w' := by
 have ev : ∀ x, okOpd x = true -> V B ρ ok w (evA st.t x) (a.eval x) := fun x hx => ev_sound R hx
 have hbase : B <= w.heap.size := Nat.le_trans R.heap.base.le R.heap.below.size;generalize ho : o.op = op at *;cases op with
 | convert src dst x =>
  have hx := ev x (opd hok (by simp [Op.operands]));simp only [valA] at he;simp only [convNew] at hn;split at hn
  ·rename_i el h1 h2;unfold convA at he;rw [h1, h2] at he;generalize hq : evA st.t x = av at he hx;split at he
   ·rename_i hh _; cases hh
   ·rename_i hh _; cases hh
   ·rename_i hh _; cases hh
   ·rename_i e s hd1 hd2;cases hd2;split at he
    ·rename_i hb;obtain ⟨hb, hsz⟩ := hb;cases he;have hv := V_at hx;have hs := tk_string h1;have hd := tk_slice h2;have hbt := tk_int (isByte_eq hb);have hrun := Lib.run_convert_string_bytes (P := P) w src dst el s hs hd hbt;have hbel := Lib.bytesWorld_below w el s;obtain ⟨g1, g2⟩ := R.heap.grow hbel;refine ⟨.slice (some ⟨w.heap.size, 0, none⟩) s.size (grownCap w s.size 0 el), Lib.bytesWorld w el s, _, by unfold execOp; simp [ho, hv, hrun], g1, ?_, g2⟩;have hge := grownCap_ge w s.size 0 el;have hcm : grownCap w s.size 0 el <= maxLen := grownCap_le_maxLen w s.size 0 el (by simp only [maxLen]; omega);have hl : (B8 s.data.toList).length = s.size := by rw [B8_length]; rfl
     have := PV.lst (F := fun b => (ok b \/ (w.heap.size <= b /\ b < (Lib.bytesWorld w el s).heap.size)) /\ (true = true -> B <= b)) (w := Lib.bytesWorld w el s) (s := 1) (rows := B8 s.data.toList) (a := some ⟨w.heap.size, 0, none⟩) (cap := grownCap w s.size 0 el) (us := Lib.strCells s)
      (B8_rows _) (by rw [hl]; exact hge) hcm (fun e => by cases e) (by rw [B8_flat]; simp [Lib.strCells]) (Lib.strCells_oneCell s)
      (fun ad e _ => by
       cases e;refine ⟨rfl, ⟨Or.inr ⟨Nat.le_refl _, by show w.heap.size < _; rw [Lib.bytesWorld_size]; omega⟩, fun _ => hbase⟩, fun j u hj => ?_⟩
       have hjl : j < s.size := by
        have := (List.getElem?_eq_some_iff.1 hj).1;rw [Lib.strCells_length] at this;exact this
       simp only [Nat.zero_add];rw [Lib.bytesWorld_cell w el s j hjl];rw [Lib.strCells, List.getElem?_map] at hj;cases hq : s.data.toList[j]? with
       | none => rw [hq] at hj; cases hj
       | some b =>
        rw [hq] at hj;cases hj;rw [List.getD_eq_getElem?_getD, hq]
        rfl)
      (fun j c u hc hu => by
       rw [B8_flat, List.getElem?_map] at hc;rw [Lib.strCells, List.getElem?_map] at hu;cases hq : s.data.toList[j]? with
       | none => rw [hq] at hc; cases hc
       | some b => rw [hq] at hc hu; cases hc; cases hu; exact .at rfl)
     rw [hl] at this;exact .lst this
    ·cases he
   ·cases he
  ·cases hn
 | _ => simp [convNew] at hn
theorem app_sound (T : TypesOk P) {ρ : Nat -> Option Place} {ok : Nat -> Prop} {w : World} {h : Heap} {n : Nat} (H : HRel B W0 ρ ok h n w) {id : Nat} (hid : id < n) (hfree : ρ id = none) {t t' ty : TypeId} {x y v : AV} {xv yv : Value} {h' : Heap} (hx : V B ρ ok w x xv) (hy : V B ρ ok w y yv) (hbad : appBad P t t' y = false) (he : appendA P h id t x y = some (h', v)) :
  ∃ z w' ρ', (Builtin.append_ #[t, t'] ty #[xv, yv]).run P w = .ok z w' /\ HRel B W0 ρ' ok h' n w' /\ V B ρ' ok w' v z /\ Ext (fun i => i = id) ρ ρ' ok ok w w' := by
 unfold appBad at hbad;split at hbad
 ·rename_i u
  have hs : tkOf P t' = .string := by
   simp only [Bool.not_eq_false'] at hbad;unfold isStr at hbad;split at hbad
   ·assumption
   ·cases hbad
  have hu := tk_string hs;have hv := V_at hy;subst hv;cases yv with
  | string s => exact append_str_sound T H hid hfree hx hu he
  | _ =>
   exfalso;unfold appendA at he;split at he
   ·rename_i el _;cases hti : tiOf P el with
    | none => rw [hti] at he; cases he
    | some ti =>
     rw [hti] at he;simp only [Option.bind_some, srcRows, Option.bind_none] at he;split at he <;> cases he
   ·cases he
 ·rename_i hna;have ht : t' = t := by simpa using hbad
  subst ht;exact append_sound T H hid hfree hx hy (fun b e => hna _ e) he
def dstOk (nt : Nat) (d : Option Tmp) : Bool := match d with | some k => decide (k < nt) | none => true
theorem dst_lt {nt : Nat} {d : Option Tmp} (h : dstOk nt d = true) : ∀ k, d = some k -> k < nt := by
 intro k e; subst e; simpa [dstOk] using h
def Names (id n : Nat) (i : Nat) : Prop := (id <= i /\ i < id + 4) \/ n <= i
theorem step_sound (T : TypesOk P) {ρ : Nat -> Option Place} {ok : Nat -> Prop} {w : World} {st : St} {a : Act} (R : Rl B W0 ρ ok nt st a w) {o : Oper} {id : Nat} (hok : opOk o.op = true) (hd : dstOk nt o.dst = true) (hid : id + 4 <= st.n) (hfree : ∀ j, j < 4 -> ρ (id + j) = none)
  {draw : Bool} {K : St -> Prop} {i j} (hs : stepA P draw id o.dst o.op K i j st) {next : Act -> World -> Prop} {Q : Exit -> Act -> World -> Prop}
  (hn : ∀ st' a' w' ρ' ok', K st' -> Rl B W0 ρ' ok' nt st' a' w' -> Ext (Names id st.n) ρ ρ' ok ok' w w' -> st.n <= st'.n -> next a' w') : o.wp P a w next Q := by
 have ev : ∀ x, okOpd x = true -> V B ρ ok w (evA st.t x) (a.eval x) := fun x hx => ev_sound R hx
 have hd' := dst_lt hd;have hU : ∀ i, i = id -> Names id st.n i := fun i e => Or.inl (by omega)
 have hf0 : ρ id = none := by simpa using hfree 0 (by omega)
 have val : ∀ r, valA P st.t st.h o.op = some r -> K (st.put o.dst r) -> o.wp P a w next Q := by
  intro r hr hk;by_cases hcn : convNew P o.op = true
  ·obtain ⟨z, w', ok', h1, h2, h3, h4⟩ := conv_new_sound R hok hcn hr;unfold Oper.wp;rw [h1];exact hn _ _ _ _ _ hk (R.put h4 h2 hd' h3) (h4.weaken (fun _ hf => hf.elim)) (by cases o.dst <;> exact Nat.le_refl _)
  ·obtain ⟨z, h1, h2⟩ := val_sound T R hok (by simpa using hcn) hr;unfold Oper.wp;rw [h1];exact hn _ _ _ _ _ hk (R.put (Ext.refl (Names id st.n) ρ ok w) R.heap hd' h2) (Ext.refl _ _ _ _) (by cases o.dst <;> exact Nat.le_refl _)
 have new : ∀ ev, newA P st.t id o.op = some ev -> K (St.put ⟨st.t, upd st.h id (some ev.1), st.n⟩ o.dst ev.2) -> o.wp P a w next Q := by
  intro ev he hk;obtain ⟨z, w', ρ', h1, h2, h3, h4⟩ := new_sound T R hok (by omega) hf0 (e := ev.1) (v := ev.2) he;unfold Oper.wp;rw [h1];exact hn _ _ _ _ _ hk (R.put h4 h2 hd' h3) (h4.weaken hU) (by cases o.dst <;> exact Nat.le_refl _)
 generalize hop : o.op = op at *;unfold stepA at hs;split at hs
 ·-- store
  rename_i ty x y _;obtain ⟨h', he, hk⟩ := hs;obtain ⟨w', h1, h2, h3⟩ := store_sound R.heap (ev x (opd hok (by simp [Op.operands]))) (ev y (opd hok (by simp [Op.operands]))) he;unfold Oper.wp
  have e : (execOp a.eval o).run P w = .ok .skip w' := by
   unfold execOp;simp [hop, h1]
  rw [e];exact hn _ _ _ _ _ hk (R.put h3 h2 hd' .und) (h3.weaken (fun _ hf => hf.elim)) (by cases o.dst <;> exact Nat.le_refl _)
 ·obtain ⟨ev, he, hk⟩ := hs; exact new ev he hk
 ·obtain ⟨ev, he, hk⟩ := hs; exact new ev he hk
 ·obtain ⟨ev, he, hk⟩ := hs; exact new ev he hk
 ·obtain ⟨ev, he, hk⟩ := hs; exact new ev he hk
 ·-- append
  rename_i args tys _;split at hs
  ·rename_i x y ty ty' hx hy;split at hs
   ·exact hs.elim
   ·rename_i hty;obtain ⟨⟨h', v⟩, he, hk⟩ := hs;have ha : args = #[x, y] := by rw [<- Array.toArray_toList (xs := args), hx]
    have ht : tys = #[ty, ty'] := by rw [<- Array.toArray_toList (xs := tys), hy]
    subst ha; subst ht
    obtain ⟨z, w', ρ', h1, h2, h3, h4⟩ := app_sound T R.heap (id := id) (ty := o.type) (by omega) hf0 (ev x (opd hok (by simp [Op.operands, Call.operands]))) (ev y (opd hok (by simp [Op.operands, Call.operands]))) (by simpa using hty) he;unfold Oper.wp
    have e : (execOp a.eval o).run P w = .ok (.value z) w' := by
     unfold execOp;simp [hop, resolve, invoke, builtin, h1]
    rw [e];exact hn _ _ _ _ _ hk (R.put h4 h2 hd' h3) (h4.weaken hU) (by cases o.dst <;> exact Nat.le_refl _)
  ·exact hs.elim
 ·-- call
  rename_i g args tys _;obtain ⟨⟨f, caps⟩, hg, hs⟩ := hs;have hgv := ev g (opd hok (by simp [Op.operands, Call.operands]))
  have hge : evA st.t g = .fn f caps := by
   unfold fnOf at hg;split at hg
   ·rename_i f' c' heq; simp only [Option.some.injEq, Prod.mk.injEq] at hg; rw [heq, hg.1, hg.2]
   ·cases hg
  rw [hge] at hgv;generalize hgval : a.eval g = gv at hgv;cases hgv with
  | fn hl1 hl2 =>
   rename_i cvs
   have hargs : VL B ρ ok w (args.toList.map (evA st.t) ++ caps) ((args.map a.eval).toList ++ cvs) := by
    refine ⟨by simp [hl1], fun j c u hc hu => ?_⟩;by_cases hj : j < args.toList.length
    ·rw [List.getElem?_append_left (by simpa using hj)] at hc;rw [List.getElem?_append_left (by simpa using hj)] at hu;simp only [Array.toList_map, List.getElem?_map] at hc hu;cases hq : args.toList[j]? with
     | none => rw [hq] at hc; cases hc
     | some x =>
      rw [hq] at hc hu;cases hc; cases hu
      refine ev x (opd hok ?_);have := List.mem_of_getElem? hq;simp [Op.operands, Call.operands];exact Or.inr (by simpa using this)
    ·rw [List.getElem?_append_right (by simpa using hj)] at hc;rw [List.getElem?_append_right (by simpa using hj)] at hu;simp only [List.length_map, Array.toList_map] at hc hu;exact hl2 _ c u hc hu
   have enter : ∀ (hcf : Callable P f), (execOp a.eval o).run P w = .ok (.enter f ((args.map a.eval).toList ++ cvs).toArray) w := by
    intro hcf;unfold execOp;simp [hop, resolve, hgval, Deferred.ofValue, invoke, hcf _ w]
   rcases hs with ⟨r, news, args', hview, hC, hcond, hnl, hk⟩ | ⟨-, hcs⟩
   ·unfold Oper.wp;rw [enter hC.1, Oper.upon_enter];refine (call_sound R.heap hid hfree hargs hview hC hcond hnl).mono ?_;rintro e w' ⟨v, ρ', ok', rfl, h1, h2, h3⟩;exact hn _ _ _ _ _ hk (R.put h3 h1 hd' h2) (h3.weaken fun i hi => Or.inl hi) (by cases o.dst <;> exact Nat.le_refl _)
   ·unfold Oper.wp;rw [enter hcs.1, Oper.upon_enter];refine (hcs.2 B W0 ρ ok w _ R.heap hargs).mono ?_;rintro e w' ⟨v, h', n', r, ρ', ok', rfl, hk, hnn, h1, h2, h3⟩;exact hn _ _ _ _ _ hk (R.put h3 h1 hd' h2) (h3.weaken fun i hi => Or.inr hi) (by cases o.dst <;> exact hnn)
 ·obtain ⟨r, hr, hk⟩ := hs; exact val r hr hk
theorem want_sound {ρ : Nat -> Option Place} {ok : Nat -> Prop} {w : World} {st : St} {a : Act} (R : Rl B W0 ρ ok nt st a w) (ops : Array Oper) (o : Oper) : Region.wanted o (yielded ops a.tmps) = wantA ops o st.t := by
 unfold Region.wanted wantA;split
 ·rename_i hg; simp [hg]
 ·rename_i j b hg;simp only [hg];unfold yielded;cases hd : (ops[j]?).bind (·.dst) with
  | none => simp
  | some d =>
   have hv := R.tmps d;simp only [Option.bind_some];generalize st.t d = x at *
   have key : ∀ z, a.tmps.getD d undef = z -> (a.tmps[d]? = some z \/ (a.tmps[d]? = none /\ z = .tuple #[])) := by
    intro z hz;cases hq : a.tmps[d]? with
    | none => right; simp [hq] at hz; exact ⟨rfl, hz.symm⟩
    | some y => left; simp [hq] at hz; rw [hz]
   have kz := key _ rfl;clear key;generalize a.tmps.getD d undef = z at hv kz;cases x with
   | «at» v =>
    have := V_at hv;subst this;rcases kz with kz | ⟨kz, kz2⟩
    ·rw [kz];cases z <;> simp
     rename_i q;cases b <;> cases q <;> rfl
    ·rw [kz, kz2]; simp
   | nilv => cases hv; rcases kz with kz | ⟨kz, kz2⟩ <;> simp [kz]
   | nn => cases hv; rcases kz with kz | ⟨kz, kz2⟩ <;> simp [kz]
   | und => cases hv; rcases kz with kz | ⟨kz, kz2⟩ <;> simp [kz]
   | nl => cases hv; rcases kz with kz | ⟨kz, kz2⟩ <;> simp [kz]
   | lst fr s rows => cases hv with | lst hp => cases hp; rcases kz with kz | ⟨kz, kz2⟩ <;> simp [kz]
   | rp c => obtain ⟨b', o', e, -, -⟩ := cellsAt_rp hv; subst e; rcases kz with kz | ⟨kz, kz2⟩ <;> simp [kz]
   | own i o n => cases hv <;> rcases kz with kz | ⟨kz, kz2⟩ <;> simp [kz]
   | ptr i s r o => cases hv; rcases kz with kz | ⟨kz, kz2⟩ <;> simp [kz]
   | agg l => cases hv; rcases kz with kz | ⟨kz, kz2⟩ <;> simp [kz]
   | tup l => cases hv; rcases kz with kz | ⟨kz, kz2⟩ <;> simp [kz]
   | fn f l => cases hv; rcases kz with kz | ⟨kz, kz2⟩ <;> simp [kz]
   | err => cases hv; rcases kz with kz | ⟨kz, kz2⟩ <;> simp [kz]
def operOk (nt : Nat) (o : Oper) : Bool := opOk o.op && dstOk nt o.dst
def Since (B : Nat) (W0 : World) (nt : Nat) (ρ0 : Nat -> Option Place) (ok0 : Nat -> Prop) (w0 : World) (n0 : Nat) (st : St) (a : Act) (w : World) : Prop :=
 ∃ ρ ok, Rl B W0 ρ ok nt st a w /\ Ext (fun i => n0 <= i) ρ0 ρ ok0 ok w0 w /\ n0 <= st.n
theorem list_sound (T : TypesOk P) {ρ0 : Nat -> Option Place} {ok0 : Nat -> Prop} {w0 : World} {n0 : Nat} {ops : Array Oper} {base len : Nat} (hb0 : n0 <= base) {Q : St -> Prop} {Qc : Exit -> Act -> World -> Prop}
  (hQ : ∀ st a w, Q st -> Since B W0 nt ρ0 ok0 w0 n0 st a w -> Qc .normal a w) :
  ∀ (os : List Oper) (k : Nat) (st : St) (a : Act) (w : World) (ρ : Nat -> Option Place) (ok : Nat -> Prop), k + os.length = len -> (os.all (operOk nt)) = true -> Rl B W0 ρ ok nt st a w -> Ext (fun i => n0 <= i) ρ0 ρ ok0 ok w0 w -> base + 4 * len <= st.n ->
   (∀ i, base + 4 * k <= i -> i < base + 4 * len -> ρ i = none) -> runR P false ops base os k Q st -> wpList P ops Qc os a w
 | [], k, st, a, w, ρ, ok, _, _, R, x, hn, _, hr => wpList_nil (hQ st a w hr ⟨ρ, ok, R, x, by omega⟩)
 | o :: os, k, st, a, w, ρ, ok, hl, hok, R, x, hn, hfree, hr => by
  simp only [List.all_cons, Bool.and_eq_true] at hok;obtain ⟨ho, hos⟩ := hok;simp only [operOk, Bool.and_eq_true] at ho;simp only [List.length_cons] at hl;simp only [runR] at hr;refine wpList_step fun K hK => ?_
  rw [want_sound R ops o];unfold brA at hr;split
  ·rename_i hw;rw [if_pos hw] at hr;refine step_sound T R ho.1 ho.2 (by omega) (fun j hj => hfree _ (by omega) (by omega)) hr fun st' a' w' ρ' ok' hk R' x' hn' => hK a' w' ?_
   refine list_sound (base := base) (len := len) T hb0 hQ os (k + 1) st' a' w' ρ' ok' (by omega) hos R' (x.trans (x'.weaken fun i hi => ?_)) (by omega) (fun i h1 h2 => ?_) hk
   ·rcases hi with hi | hi <;> omega
   ·rw [x'.pl i (by rintro (hi | hi) <;> omega)];exact hfree i (by omega) h2
  ·rename_i hw;rw [if_neg hw] at hr;refine hK _ _ (list_sound (base := base) (len := len) T hb0 hQ os (k + 1) _ _ w ρ ok (by omega) hos (R.put (Ext.refl (fun _ => False) ρ ok w) R.heap (dst_lt ho.2) .und) x (by cases o.dst <;> exact hn) (fun i h1 h2 => hfree i (by omega) h2) hr)
end
end Go.Proofs.YtadmfokicjjglaaGreatDoor.E
namespace Go.Proofs.YtadmfokicjjglaaGreatDoor.E
open Go.RowKit
set_option linter.unusedSimpArgs false
section
variable {P : Program}
def Rd (P : Program) (id : Nat) (op : Op) (t : Nat -> AV) (h : Heap) (r : AV) (news : List HE) : Prop :=
 match op with
 | .alloc _ | .box _ _ | .buildSlice _ _ _ | .makeSlice _ _ _ => ∃ e, newA P t id op = some (e, r) /\ news = [e]
 | .call ⟨.value g, args, _⟩ => ∃ f caps r0 args', fnOf (evA t g) = some (f, caps) /\ (args.toList.map (evA t) ++ caps).mapM (viewV h) = some args' /\ C P f args' r0 news /\
   ((newV r0 = true /\ newNews news = true) \/ (args.toList.map (evA t) ++ caps).all plainV = true) /\ r = shiftV id r0
 | op => valA P t h op = some r /\ news = []
def sort : Op -> Nat
 | .convert _ _ _ | .move _ | .assign _ | .pick _ _ _ | .nilCheck _ | .binOp _ _ _ _ _ | .unOp _ _ _ | .extract _ _ | .fieldAddr _ _ _ | .index _ _ _ | .build _ _ | .makeFunc _ _ _ => 0
 | .call ⟨.builtin .len, _, _⟩ | .call ⟨.builtin .min, _, _⟩ => 0
 | .load _ _ | .indexAddr _ _ _ | .slice _ _ _ _ _ | .alloc _ | .box _ _ | .buildSlice _ _ _ | .makeSlice _ _ _ => 1
 | .call ⟨.value _, _, _⟩ => 1
 | _ => 2
def Ef (P : Program) (id : Nat) (op : Op) (t : Nat -> AV) (h h' : Heap) (r : AV) : Prop :=
 if sort op = 2 then (match op with
  | .store ty x y => storeA P h ty (evA t x) (evA t y) = some h' /\ r = .und
  | .call ⟨.builtin .append, args, tys⟩ => ∃ x y ty ty', args.toList = [x, y] /\ tys.toList = [ty, ty'] /\ appBad P ty ty' (evA t y) = false /\ appendA P h id ty (evA t x) (evA t y) = some (h', r)
  | _ => False)
 else ∃ news, Rd P id op t h r news /\ news.length <= 4 /\ h' = updL h id news
theorem step_ef {id : Nat} {d : Option Tmp} {op : Op} {K : St -> Prop} {i j} {st : St} (h : stepA P true id d op K i j st) : ∃ h' r, Ef P id op st.t st.h h' r /\ K (St.put ⟨st.t, h', st.n⟩ d r) := by
 have vl : sort op ≠ 2 -> (∀ r, (valA P st.t st.h op = some r) -> Rd P id op st.t st.h r []) -> bindO (valA P st.t st.h op) (fun r => K (st.put d r)) ⟨⟩ -> ∃ h' r, Ef P id op st.t st.h h' r /\ K (St.put ⟨st.t, h', st.n⟩ d r) := by
  rintro hs hr ⟨r, h1, h2⟩;exact ⟨st.h, r, by unfold Ef; rw [if_neg hs]; exact ⟨[], hr r h1, by simp, rfl⟩, h2⟩
 have nw : sort op ≠ 2 -> (∀ e r, newA P st.t id op = some (e, r) -> Rd P id op st.t st.h r [e]) -> bindO (newA P st.t id op) (fun ev => K (St.put ⟨st.t, upd st.h id (some ev.1), st.n⟩ d ev.2)) ⟨⟩ -> ∃ h' r, Ef P id op st.t st.h h' r /\ K (St.put ⟨st.t, h', st.n⟩ d r) := by
  rintro hs hr ⟨⟨e, r⟩, h1, h2⟩;exact ⟨_, r, by unfold Ef; rw [if_neg hs]; exact ⟨[e], hr e r h1, by simp, rfl⟩, h2⟩
 cases op with
 | store ty x y =>
  obtain ⟨h', h1, h2⟩ := h;exact ⟨h', .und, by unfold Ef; rw [if_pos (by simp [sort])]; exact ⟨h1, rfl⟩, h2⟩
 | alloc e => exact nw (by simp [sort]) (fun e r h => ⟨e, h, rfl⟩) h
 | box e x => exact nw (by simp [sort]) (fun e r h => ⟨e, h, rfl⟩) h
 | buildSlice a b c => exact nw (by simp [sort]) (fun e r h => ⟨e, h, rfl⟩) h
 | makeSlice a b c => exact nw (by simp [sort]) (fun e r h => ⟨e, h, rfl⟩) h
 | call c =>
  obtain ⟨callee, args, tys⟩ := c;cases callee with
  | value g =>
   obtain ⟨⟨f, caps⟩, h1, h2⟩ := h;rcases h2 with ⟨r, news, args', a1, a2, a3, a4, a5⟩ | ⟨a1, _⟩
   ·exact ⟨_, _, by unfold Ef; rw [if_neg (by simp [sort])]; exact ⟨news, ⟨f, caps, r, args', h1, a1, a2, a3, rfl⟩, a4, rfl⟩, a5⟩
   ·cases a1
  | invoke r m => obtain ⟨x, h1, h2⟩ := h; cases h1
  | builtin b =>
   cases b with
   | append =>
    change (match args.toList, tys.toList with | [x, y], [ty, ty'] => if appBad P ty ty' (evA st.t y) then False else bindO (appendA P st.h id ty (evA st.t x) (evA st.t y)) (fun hv => K (St.put ⟨st.t, hv.1, st.n⟩ d hv.2)) ⟨⟩ | _, _ => False) at h;split at h
    ·rename_i x y ty ty' h1 h2;split at h
     ·exact h.elim
     ·rename_i hne;obtain ⟨⟨h', r⟩, g1, g2⟩ := h;refine ⟨h', r, ?_, g2⟩;unfold Ef;rw [if_pos (by simp [sort])];exact ⟨x, y, ty, ty', h1, h2, by simpa using hne, g1⟩
    ·exact h.elim
   | len => exact vl (by simp [sort]) (fun r h => ⟨h, rfl⟩) h
   | min => exact vl (by simp [sort]) (fun r h => ⟨h, rfl⟩) h
   | _ => obtain ⟨x, h1, h2⟩ := h; cases h1
 | move x => exact vl (by simp [sort]) (fun r h => ⟨h, rfl⟩) h
 | assign x => exact vl (by simp [sort]) (fun r h => ⟨h, rfl⟩) h
 | pick a b c => exact vl (by simp [sort]) (fun r h => ⟨h, rfl⟩) h
 | load a b => exact vl (by simp [sort]) (fun r h => ⟨h, rfl⟩) h
 | nilCheck a => exact vl (by simp [sort]) (fun r h => ⟨h, rfl⟩) h
 | binOp a b c d e => exact vl (by simp [sort]) (fun r h => ⟨h, rfl⟩) h
 | unOp a b c => exact vl (by simp [sort]) (fun r h => ⟨h, rfl⟩) h
 | extract a b => exact vl (by simp [sort]) (fun r h => ⟨h, rfl⟩) h
 | fieldAddr a b c => exact vl (by simp [sort]) (fun r h => ⟨h, rfl⟩) h
 | indexAddr a b c => exact vl (by simp [sort]) (fun r h => ⟨h, rfl⟩) h
 | index a b c => exact vl (by simp [sort]) (fun r h => ⟨h, rfl⟩) h
 | slice a b c d e => exact vl (by simp [sort]) (fun r h => ⟨h, rfl⟩) h
 | build a b => exact vl (by simp [sort]) (fun r h => ⟨h, rfl⟩) h
 | makeFunc a b c => exact vl (by simp [sort]) (fun r h => ⟨h, rfl⟩) h
 | convert a b c => exact vl (by simp [sort]) (fun r h => ⟨h, rfl⟩) h
 | _ => obtain ⟨x, h1, h2⟩ := h; cases h1
theorem ef_step {id : Nat} {d : Option Tmp} {op : Op} {K : St -> Prop} {st : St} {h' : Heap} {r : AV} (he : Ef P id op st.t st.h h' r) (hk : K (St.put ⟨st.t, h', st.n⟩ d r)) : stepA P true id d op K ⟨⟩ ⟨⟩ st := by
 unfold Ef at he;split at he
 ·split at he
  ·obtain ⟨h1, rfl⟩ := he;exact ⟨h', h1, hk⟩
  ·rename_i args tys _;obtain ⟨x, y, ty, ty', h1, h2, hbad, h3⟩ := he;change (match args.toList, tys.toList with | [x, y], [ty, ty'] => if appBad P ty ty' (evA st.t y) then False else bindO (appendA P st.h id ty (evA st.t x) (evA st.t y)) (fun hv => K (St.put ⟨st.t, hv.1, st.n⟩ d hv.2)) ⟨⟩ | _, _ => False);rw [h1, h2];simp only [hbad, Bool.false_eq_true, if_false];exact ⟨_, h3, hk⟩
  ·exact he.elim
 ·rename_i hs;obtain ⟨news, hr, hl, rfl⟩ := he;cases op with
  | store ty x y => simp [sort] at hs
  | alloc e => obtain ⟨e, h1, rfl⟩ := hr; exact ⟨_, h1, hk⟩
  | box e x => obtain ⟨e, h1, rfl⟩ := hr; exact ⟨_, h1, hk⟩
  | buildSlice a b c => obtain ⟨e, h1, rfl⟩ := hr; exact ⟨_, h1, hk⟩
  | makeSlice a b c => obtain ⟨e, h1, rfl⟩ := hr; exact ⟨_, h1, hk⟩
  | call c =>
   obtain ⟨callee, args, tys⟩ := c;cases callee with
   | value g =>
    obtain ⟨f, caps, r0, args', a0, a1, a2, a3, rfl⟩ := hr;exact ⟨(f, caps), a0, Or.inl ⟨r0, news, args', a1, a2, a3, hl, hk⟩⟩
   | invoke r m => simp [sort] at hs
   | builtin b =>
    cases b with
    | len => obtain ⟨h1, rfl⟩ := hr; exact ⟨_, h1, hk⟩
    | min => obtain ⟨h1, rfl⟩ := hr; exact ⟨_, h1, hk⟩
    | _ => simp [sort] at hs
  | move x => obtain ⟨h1, rfl⟩ := hr; exact ⟨_, h1, hk⟩
  | assign x => obtain ⟨h1, rfl⟩ := hr; exact ⟨_, h1, hk⟩
  | pick a b c => obtain ⟨h1, rfl⟩ := hr; exact ⟨_, h1, hk⟩
  | load a b => obtain ⟨h1, rfl⟩ := hr; exact ⟨_, h1, hk⟩
  | nilCheck a => obtain ⟨h1, rfl⟩ := hr; exact ⟨_, h1, hk⟩
  | binOp a b c d e => obtain ⟨h1, rfl⟩ := hr; exact ⟨_, h1, hk⟩
  | unOp a b c => obtain ⟨h1, rfl⟩ := hr; exact ⟨_, h1, hk⟩
  | extract a b => obtain ⟨h1, rfl⟩ := hr; exact ⟨_, h1, hk⟩
  | fieldAddr a b c => obtain ⟨h1, rfl⟩ := hr; exact ⟨_, h1, hk⟩
  | indexAddr a b c => obtain ⟨h1, rfl⟩ := hr; exact ⟨_, h1, hk⟩
  | index a b c => obtain ⟨h1, rfl⟩ := hr; exact ⟨_, h1, hk⟩
  | slice a b c d e => obtain ⟨h1, rfl⟩ := hr; exact ⟨_, h1, hk⟩
  | build a b => obtain ⟨h1, rfl⟩ := hr; exact ⟨_, h1, hk⟩
  | makeFunc a b c => obtain ⟨h1, rfl⟩ := hr; exact ⟨_, h1, hk⟩
  | convert a b c => obtain ⟨h1, rfl⟩ := hr; exact ⟨_, h1, hk⟩
  | _ => simp [sort] at hs
theorem valA_bin {t t' : Nat -> AV} {h h' : Heap} {a : BinOp} {b : TypeId} {x y : Operand} {c : TypeId} (hx : evA t x = evA t' x) (hy : evA t y = evA t' y) : valA P t h (.binOp a b x y c) = valA P t' h' (.binOp a b x y c) := by
 have old : binA P a b (evA t x) (evA t y) = binA P a b (evA t' x) (evA t' y) := by rw [hx, hy]
 have new : (match tkOf P b with | .slice _ => (nilTest (evA t x)).map fun b => AV.at (.bool b) | _ => none) = (match tkOf P b with | .slice _ => (nilTest (evA t' x)).map fun b => AV.at (.bool b) | _ => none) := by rw [hx]
 have er1 : (match tkOf P b with | .iface => (errTest (evA t x)).map fun b => AV.at (.bool b) | _ => none) = (match tkOf P b with | .iface => (errTest (evA t' x)).map fun b => AV.at (.bool b) | _ => none) := by rw [hx]
 have er2 : (match tkOf P b with | .iface => (errTest (evA t x)).map fun b => AV.at (.bool !b) | _ => none) = (match tkOf P b with | .iface => (errTest (evA t' x)).map fun b => AV.at (.bool !b) | _ => none) := by rw [hx]
 cases a <;> try exact old
 ·cases y with
  | const v =>
   cases v <;> first | exact old | exact er1 | skip
   rename_i ad k c;cases ad <;> try exact old
   cases k <;> try exact old
   cases c <;> try exact old
   exact new
  | _ => exact old
 ·cases y with
  | const v => cases v <;> first | exact old | exact er2
  | _ => exact old
theorem valA_congr {t t' : Nat -> AV} {h : Heap} {op : Op} (he : ∀ x, x ∈ op.operands -> evA t x = evA t' x) : valA P t h op = valA P t' h op := by
 have mp : ∀ (y : Option Operand), (∀ q, y = some q -> evA t q = evA t' q) -> y.map (evA t) = y.map (evA t') := by
  intro y hy; cases y with
  | none => rfl
  | some q => simp only [Option.map_some, hy q rfl]
 have pr : ∀ (parts : Array (Nat × Operand)), (∀ p, p ∈ parts.toList -> evA t p.2 = evA t' p.2) -> (parts.toList.map fun p => (p.1, evA t p.2)) = (parts.toList.map fun p => (p.1, evA t' p.2)) := by
  intro parts hp;exact List.map_congr_left fun p hm => by rw [hp p hm]
 cases op with
 | call c =>
  obtain ⟨callee, args, tys⟩ := c;cases callee with
  | builtin b =>
   cases b with
   | len =>
    simp only [valA];split
    ·rename_i x ty hx hy
     rw [he x (by simp only [Op.operands, Call.operands]; have : x ∈ args.toList := by rw [hx]; simp
                  simpa using this)]
    ·rfl
   | min =>
    simp only [valA];split
    ·rename_i x y hx
     rw [he x (by simp only [Op.operands, Call.operands]; have : x ∈ args.toList := by rw [hx]; simp
                  simpa using this), he y (by simp only [Op.operands, Call.operands]; have : y ∈ args.toList := by rw [hx]; simp
                                              simpa using this)]
    ·rfl
   | _ => rfl
  | _ => rfl
 | slice a b c d e =>
  simp only [valA];rw [he b (by simp [Op.operands]), mp c (fun q e => he q (by subst e; simp [Op.operands])), mp d (fun q e => he q (by subst e; simp [Op.operands])), mp e (fun q e => he q (by subst e; simp [Op.operands]))]
 | build a b =>
  simp only [valA];rw [pr b (fun p hp => he _ (by simp only [Op.operands, List.mem_toArray, List.mem_map]; exact ⟨p, hp, rfl⟩))]
 | makeFunc f a b =>
  cases f with
  | func f =>
   simp only [valA];have : b.toList.map (evA t) = b.toList.map (evA t') := List.map_congr_left fun x hx => he x (by simp [Op.operands]; exact Or.inr (by simpa using hx))
   rw [this]
  | _ => rfl
 | pick a b c => simp only [valA]; rw [he a (by simp [Op.operands]), he b (by simp [Op.operands]), he c (by simp [Op.operands])]
 | move x => simp only [valA]; rw [he x (by simp [Op.operands])]
 | assign x => simp only [valA]; rw [he x (by simp [Op.operands])]
 | load a x => simp only [valA]; rw [he x (by simp [Op.operands])]
 | nilCheck x => simp only [valA]; rw [he x (by simp [Op.operands])]
 | binOp a b x y c => exact valA_bin (he x (by simp [Op.operands])) (he y (by simp [Op.operands]))
 | unOp a b x => simp only [valA]; rw [he x (by simp [Op.operands])]
 | extract x b => simp only [valA]; rw [he x (by simp [Op.operands])]
 | fieldAddr a x b => simp only [valA]; rw [he x (by simp [Op.operands])]
 | indexAddr a x y => simp only [valA]; rw [he x (by simp [Op.operands]), he y (by simp [Op.operands])]
 | index a x y => simp only [valA]; rw [he x (by simp [Op.operands]), he y (by simp [Op.operands])]
 | convert a b x => simp only [valA]; rw [he x (by simp [Op.operands])]
 | _ => rfl
theorem newA_congr {t t' : Nat -> AV} {id : Nat} {op : Op} (he : ∀ x, x ∈ op.operands -> evA t x = evA t' x) : newA P t id op = newA P t' id op := by
 have pr : ∀ (parts : Array (Nat × Operand)), (∀ p, p ∈ parts.toList -> evA t p.2 = evA t' p.2) -> (parts.toList.map fun p => (p.1, evA t p.2)) = (parts.toList.map fun p => (p.1, evA t' p.2)) := by
  intro parts hp;exact List.map_congr_left fun p hm => by rw [hp p hm]
 cases op with
 | box e x => simp only [newA]; rw [he x (by simp [Op.operands])]
 | buildSlice a b c =>
  simp only [newA];rw [pr c (fun p hp => he _ (by simp only [Op.operands, List.mem_toArray, List.mem_map]; exact ⟨p, hp, rfl⟩))]
 | makeSlice a x y => simp only [newA]; rw [he x (by simp [Op.operands]), he y (by simp [Op.operands])]
 | _ => rfl
theorem Rd.congr {t t' : Nat -> AV} {h : Heap} {id : Nat} {op : Op} {r : AV} {news : List HE} (he : ∀ x, x ∈ op.operands -> evA t x = evA t' x) (hr : Rd P id op t h r news) : Rd P id op t' h r news := by
 cases op with
 | alloc e => exact hr
 | box e x => obtain ⟨e, h1, h2⟩ := hr; exact ⟨e, (newA_congr he).symm.trans h1, h2⟩
 | buildSlice a b c => obtain ⟨e, h1, h2⟩ := hr; exact ⟨e, (newA_congr he).symm.trans h1, h2⟩
 | makeSlice a b c => obtain ⟨e, h1, h2⟩ := hr; exact ⟨e, (newA_congr he).symm.trans h1, h2⟩
 | call c =>
  obtain ⟨callee, args, tys⟩ := c;cases callee with
  | value g =>
   obtain ⟨f, caps, r0, args', a0, a1, a2, a3, a4⟩ := hr;have e1 : evA t g = evA t' g := he g (by simp [Op.operands, Call.operands]);have e2 : args.toList.map (evA t) = args.toList.map (evA t') := List.map_congr_left fun x hx => he x (by simp [Op.operands, Call.operands]; exact Or.inr (by simpa using hx))
   rw [e1] at a0;rw [e2] at a1 a3;exact ⟨f, caps, r0, args', a0, a1, a2, a3, a4⟩
  | _ => obtain ⟨h1, h2⟩ := hr; exact ⟨(valA_congr he).symm.trans h1, h2⟩
 | _ => obtain ⟨h1, h2⟩ := hr; exact ⟨(valA_congr he).symm.trans h1, h2⟩
theorem Rd.free {t : Nat -> AV} {h h2 : Heap} {id : Nat} {op : Op} {r : AV} {news : List HE} (hs : sort op = 0) (hr : Rd P id op t h r news) : Rd P id op t h2 r news /\ news = [] := by
 cases op with
 | call c =>
  obtain ⟨callee, args, tys⟩ := c;cases callee with
  | value g => simp [sort] at hs
  | invoke r m => simp [sort] at hs
  | builtin b => cases b <;> first | exact ⟨hr, hr.2⟩ | (simp [sort] at hs; done)
 | makeFunc f a b => cases f <;> exact ⟨hr, hr.2⟩
 | binOp a b x y c => exact ⟨⟨(valA_bin rfl rfl).trans hr.1, hr.2⟩, hr.2⟩
 | _ => first | exact ⟨hr, hr.2⟩ | (simp [sort] at hs; done)
def HLe (h h' : Heap) : Prop := ∀ i e, h i = some e -> h' i = some e
theorem mapM_some {α β : Type} {f g : α -> Option β} : ∀ {xs : List α} {ys : List β}, xs.mapM f = some ys -> (∀ x y, x ∈ xs -> f x = some y -> g x = some y) -> xs.mapM g = some ys
 | [], ys, h, _ => by simp at h; subst h; simp
 | x :: xs, ys, h, hg => by
  simp only [List.mapM_cons, Option.bind_eq_bind, Option.pure_def] at h ⊢;cases hx : f x with
  | none => simp [hx] at h
  | some b =>
   cases hr : xs.mapM f with
   | none => simp [hx, hr] at h
   | some rest =>
    simp [hx, hr] at h;subst h;simp [hg x b (by simp) hx, mapM_some hr (fun x y hm => hg x y (by simp [hm]))]
theorem loadA_mono {h h' : Heap} (hl : HLe h h') {t : TypeId} {x r : AV} (he : loadA P h t x = some r) : loadA P h' t x = some r := by
 unfold loadA at he ⊢;split at he
 ·cases he
 ·rename_i ti hti;split at he
  ·exact he
  ·split at he
   ·rename_i e hen;simp only [hti, hl _ _ hen];exact he
   ·cases he
  ·cases he
theorem indexAddrA_mono {h h' : Heap} (hl : HLe h h') {t : TypeId} {x ix r : AV} (he : indexAddrA P h t x ix = some r) : indexAddrA P h' t x ix = some r := by
 unfold indexAddrA at he ⊢;split at he
 ·cases he
 ·rename_i k hk;split at he
  ·rename_i el htk;split at he
   ·cases he
   ·rename_i ti hti;split at he
    ·simpa only [htk, hti] using he
    ·split at he
     ·rename_i e hen;simp only [htk, hti, hl _ _ hen];exact he
     ·cases he
    ·cases he
  ·exact he
  ·cases he
theorem sliceA_mono {h h' : Heap} (hl : HLe h h') {sz : Nat} {x r : AV} {lo hi mx : Option AV} (he : sliceA h sz x lo hi mx = some r) : sliceA h' sz x lo hi mx = some r := by
 unfold sliceA at he ⊢;split at he
 ·exact he
 ·split at he
  ·exact he
  ·exact he
  ·split at he
   ·rename_i l m e h1 h2 hen;simp only [h1, h2, hl _ _ hen];exact he
   ·cases he
  ·cases he
theorem leafP_mono {h h' : Heap} (hl : HLe h h') {av : List Nat} : ∀ {d : Nat} {a a' : AV}, leafP h av d a = some a' -> leafP h' av d a = some a'
 | d, .at v, a', he => by cases d <;> exact he
 | d, .nl, a', he => by cases d <;> exact he
 | d, .lst _ _ _, a', he => by cases d <;> exact he
 | 0, .own _ _ _, a', he => he
 | d + 1, .own i o n, a', he => by
  simp only [leafP] at he ⊢;split at he
  ·cases he
  ·rename_i hav;rw [if_neg hav];split at he
   ·rename_i e hen;simp only [hl _ _ hen];split at he
    ·rename_i hle;rw [if_pos hle];cases hm : ((e.rows.drop o).take n).mapM (fun (r : List AV) => r.mapM (leafP h av d)) with
     | none => rw [hm] at he; cases he
     | some rows =>
      rw [hm] at he;rw [mapM_some hm (fun r r' _ hr => mapM_some hr (fun c c' _ hc => leafP_mono hl hc))];exact he
    ·cases he
   ·cases he
 | d, .und, a', he => by cases d <;> exact he
 | d, .nilv, a', he => by cases d <;> exact he
 | d, .nn, a', he => by cases d <;> exact he
 | d, .rp _, a', he => by cases d <;> exact he
 | d, .ptr _ _ _ _, a', he => by cases d <;> exact he
 | d, .agg _, a', he => by cases d <;> exact he
 | d, .tup _, a', he => by cases d <;> exact he
 | d, .fn _ _, a', he => by cases d <;> exact he
 | d, .err, a', he => by cases d <;> exact he
theorem leafV_mono {h h' : Heap} (hl : HLe h h') {a a' : AV} (he : leafV h a = some a') : leafV h' a = some a' := by
 unfold leafV at he ⊢;split at he
 ·exact he
 ·exact leafP_mono hl he
theorem viewV_mono {h h' : Heap} (hl : HLe h h') {a a' : AV} (he : viewV h a = some a') : viewV h' a = some a' := by
 unfold viewV at he ⊢;split at he
 ·rename_i l;cases hm : l.mapM (leafV h) with
  | none => rw [hm] at he; cases he
  | some l' =>
   rw [hm] at he;rw [mapM_some hm (fun c c' _ hc => leafV_mono hl hc)];exact he
 ·exact leafV_mono hl he
theorem Rd.mono {t : Nat -> AV} {h h' : Heap} (hl : HLe h h') {id : Nat} {op : Op} {r : AV} {news : List HE} (hs : sort op ≠ 2) (hr : Rd P id op t h r news) : Rd P id op t h' r news := by
 cases op with
 | alloc e => exact hr
 | box e x => exact hr
 | buildSlice a b c => exact hr
 | makeSlice a b c => exact hr
 | load a x => exact ⟨loadA_mono hl hr.1, hr.2⟩
 | indexAddr a x y => exact ⟨indexAddrA_mono hl hr.1, hr.2⟩
 | slice a x b c d =>
  refine ⟨?_, hr.2⟩;have h1 := hr.1;simp only [valA] at h1 ⊢;split at h1
  ·cases hti : tiOf P (by assumption) with
   | none => rw [hti] at h1; cases h1
   | some ti =>
    rw [hti] at h1;simp only [Option.bind_some] at h1 ⊢;exact sliceA_mono hl h1
  ·exact h1
  ·cases h1
 | call c =>
  obtain ⟨callee, args, tys⟩ := c;cases callee with
  | value g =>
   obtain ⟨f, caps, r0, args', a0, a1, a2, a3, a4⟩ := hr;exact ⟨f, caps, r0, args', a0, mapM_some a1 (fun c c' _ hc => viewV_mono hl hc), a2, a3, a4⟩
  | invoke r m => simp [sort] at hs
  | builtin b => cases b <;> first | exact hr | (simp [sort] at hs; done)
 | makeFunc f a b => cases f <;> exact hr
 | binOp a b x y c => exact ⟨(valA_bin rfl rfl).trans hr.1, hr.2⟩
 | _ => first | exact hr | (simp [sort] at hs; done)
section restrict
variable {B : Nat} {W0 w : World} {ρ : Nat -> Option Place} {ok : Nat -> Prop} {h h' : Heap} {n : Nat}
theorem own_there {i o m : Nat} {v : Value} (hv : V B ρ ok w (.own i o m) v) : ρ i ≠ none := by
 cases hv with
 | own0 hp => rw [hp]; simp
 | own hp _ _ => rw [hp]; simp
theorem ptr_there {i s r o : Nat} {v : Value} (hv : V B ρ ok w (.ptr i s r o) v) : ρ i ≠ none := by
 cases hv with | ptr hp => rw [hp]; simp
theorem loadA_less (hl : ∀ i, ρ i ≠ none -> h' i = h i) {t : TypeId} {x r : AV} {v : Value} (hv : V B ρ ok w x v) (he : loadA P h' t x = some r) : loadA P h t x = some r := by
 unfold loadA at he ⊢;split at he
 ·cases he
 ·rename_i ti hti;split at he
  ·exact he
  ·rw [hl _ (ptr_there hv)] at he;simpa only [hti] using he
  ·cases he
theorem indexAddrA_less (hl : ∀ i, ρ i ≠ none -> h' i = h i) {t : TypeId} {x ix r : AV} {v : Value} (hv : V B ρ ok w x v) (he : indexAddrA P h' t x ix = some r) : indexAddrA P h t x ix = some r := by
 cases x with
 | own i o m =>
  unfold indexAddrA at he ⊢;simp only [hl i (own_there hv)] at he;exact he
 | _ => exact he
theorem sliceA_less (hl : ∀ i, ρ i ≠ none -> h' i = h i) {sz : Nat} {x r : AV} {lo hi mx : Option AV} {v : Value} (hv : V B ρ ok w x v) (he : sliceA h' sz x lo hi mx = some r) : sliceA h sz x lo hi mx = some r := by
 cases x with
 | own i o m =>
  unfold sliceA at he ⊢;simp only [hl i (own_there hv)] at he;exact he
 | _ => exact he
theorem leafP_less (H : HRel B W0 ρ ok h n w) (hl : ∀ i, ρ i ≠ none -> h' i = h i) {av : List Nat} : ∀ {d : Nat} {a a' : AV} {v : Value}, V B ρ ok w a v -> leafP h' av d a = some a' -> leafP h av d a = some a'
 | d, .at v, a', _, _, he => by cases d <;> exact he
 | d, .nl, a', _, _, he => by cases d <;> exact he
 | d, .lst _ _ _, a', _, _, he => by cases d <;> exact he
 | 0, .own _ _ _, a', _, _, he => he
 | d + 1, .own i o m, a', v, hv, he => by
  simp only [leafP] at he ⊢;rw [hl _ (own_there hv)] at he;split at he
  ·cases he
  ·rename_i hav;rw [if_neg hav];split at he
   ·rename_i e hen;split at he
    ·rename_i hle;rw [if_pos hle];cases hm : ((e.rows.drop o).take m).mapM (fun (r : List AV) => r.mapM (leafP h' av d)) with
     | none => rw [hm] at he; cases he
     | some rows =>
      rw [hm] at he
      rw [mapM_some hm (fun r r' hrm hr => mapM_some hr (fun c c' hcm hc => by
       have hmem : c ∈ e.rows.flatten := List.mem_flatten.2 ⟨r, List.mem_of_mem_drop (List.mem_of_mem_take hrm), hcm⟩;rcases H.row i e hen with ⟨_, q⟩ | ⟨b, cap, cur, q1, q2, q3, q4, q5, q6, q7, q8, q9, q10⟩
       ·rw [q] at hmem; simp at hmem
       ·obtain ⟨j, hj⟩ := List.mem_iff_getElem?.1 hmem;obtain ⟨u, hu⟩ : ∃ u, (cur.toList.take (e.rows.length * e.s))[j]? = some u := ⟨_, List.getElem?_eq_getElem (by have := (List.getElem?_eq_some_iff.1 hj).1; have := q10.1; omega)⟩
        exact leafP_less H hl (q10.2.2 j c u hj hu) hc))]
      exact he
    ·cases he
   ·cases he
 | d, .und, a', _, _, he => by cases d <;> exact he
 | d, .nilv, a', _, _, he => by cases d <;> exact he
 | d, .nn, a', _, _, he => by cases d <;> exact he
 | d, .rp _, a', _, _, he => by cases d <;> exact he
 | d, .ptr _ _ _ _, a', _, _, he => by cases d <;> exact he
 | d, .agg _, a', _, _, he => by cases d <;> exact he
 | d, .tup _, a', _, _, he => by cases d <;> exact he
 | d, .fn _ _, a', _, _, he => by cases d <;> exact he
 | d, .err, a', _, _, he => by cases d <;> exact he
theorem leafV_less (H : HRel B W0 ρ ok h n w) (hl : ∀ i, ρ i ≠ none -> h' i = h i) {a a' : AV} {v : Value} (hv : V B ρ ok w a v) (he : leafV h' a = some a') : leafV h a = some a' := by
 unfold leafV at he ⊢;split at he
 ·exact he
 ·exact leafP_less H hl hv he
theorem viewV_less (H : HRel B W0 ρ ok h n w) (hl : ∀ i, ρ i ≠ none -> h' i = h i) {a a' : AV} {v : Value} (hv : V B ρ ok w a v) (he : viewV h' a = some a') : viewV h a = some a' := by
 unfold viewV at he ⊢;split at he
 ·rename_i l;cases hm : l.mapM (leafV h') with
  | none => rw [hm] at he; cases he
  | some l' =>
   rw [hm] at he;cases hv with
   | agg h1 h2 h3 =>
    rw [mapM_some hm (fun c c' hcm hc => by
     obtain ⟨j, hj⟩ := List.mem_iff_getElem?.1 hcm;obtain ⟨u, hu⟩ : ∃ u, (_ : List Value)[j]? = some u := ⟨_, List.getElem?_eq_getElem (by rw [<- h1]; exact (List.getElem?_eq_some_iff.1 hj).1)⟩
     exact leafV_less H hl (h3 j c u hj hu) hc)]
    exact he
 ·exact leafV_less H hl hv he
theorem Rd.less {nt : Nat} {st : St} {a : Act} (R : Rl B W0 ρ ok nt st a w) (hl : ∀ i, ρ i ≠ none -> h' i = st.h i) {id : Nat} {op : Op} {r : AV} {news : List HE} (hok : opOk op = true) (hs : sort op ≠ 2) (hr : Rd P id op st.t h' r news) : Rd P id op st.t st.h r news := by
 have ev : ∀ x, okOpd x = true -> V B ρ ok w (evA st.t x) (a.eval x) := fun x hx => ev_sound R hx
 cases op with
 | alloc e => exact hr
 | box e x => exact hr
 | buildSlice a b c => exact hr
 | makeSlice a b c => exact hr
 | load a x => exact ⟨loadA_less hl (ev x (opd hok (by simp [Op.operands]))) hr.1, hr.2⟩
 | indexAddr a x y => exact ⟨indexAddrA_less hl (ev x (opd hok (by simp [Op.operands]))) hr.1, hr.2⟩
 | slice a x b c d =>
  refine ⟨?_, hr.2⟩;have h1 := hr.1;simp only [valA] at h1 ⊢;split at h1
  ·cases hti : tiOf P (by assumption) with
   | none => rw [hti] at h1; cases h1
   | some ti =>
    rw [hti] at h1;simp only [Option.bind_some] at h1 ⊢;exact sliceA_less hl (ev x (opd hok (by simp [Op.operands]))) h1
  ·exact h1
  ·cases h1
 | call c =>
  obtain ⟨callee, args, tys⟩ := c;cases callee with
  | value g =>
   obtain ⟨f, caps, r0, args', a0, a1, a2, a3, a4⟩ := hr;refine ⟨f, caps, r0, args', a0, mapM_some a1 (fun c c' hcm hc => ?_), a2, a3, a4⟩;rcases List.mem_append.1 hcm with hm | hm
   ·obtain ⟨x, hx, rfl⟩ := List.mem_map.1 hm;exact viewV_less R.heap hl (ev x (opd hok (by simp [Op.operands, Call.operands]; exact Or.inr (by simpa using hx)))) hc
   ·have hg := ev g (opd hok (by simp [Op.operands, Call.operands]))
    have hge : evA st.t g = .fn f caps := by
     unfold fnOf at a0;split at a0
     ·rename_i f' c' heq; simp only [Option.some.injEq, Prod.mk.injEq] at a0; rw [heq, a0.1, a0.2]
     ·cases a0
    rw [hge] at hg;generalize a.eval g = gv at hg;cases hg with
    | fn h1 h2 =>
     obtain ⟨j, hj⟩ := List.mem_iff_getElem?.1 hm;obtain ⟨u, hu⟩ : ∃ u, (_ : List Value)[j]? = some u := ⟨_, List.getElem?_eq_getElem (by rw [<- h1]; exact (List.getElem?_eq_some_iff.1 hj).1)⟩;exact viewV_less R.heap hl (h2 j c u hj hu) hc
  | invoke r m => simp [sort] at hs
  | builtin b => cases b <;> first | exact hr | (simp [sort] at hs; done)
 | makeFunc f a b => cases f <;> exact hr
 | binOp a b x y c => exact ⟨(valA_bin rfl rfl).trans hr.1, hr.2⟩
 | _ => first | exact hr | (simp [sort] at hs; done)
end restrict
end
end Go.Proofs.YtadmfokicjjglaaGreatDoor.E
namespace Go.Proofs.YtadmfokicjjglaaGreatDoor.E
open Go.RowKit
section
variable {P : Program}
def runI (P : Program) (ops : Array Oper) (base : Nat) : List Nat -> (St -> Prop) -> St -> Prop
 | [], Q, st => Q st
 | k :: ks, Q, st => match ops[k]? with
  | none => runI P ops base ks Q st
  | some o => if wantA ops o st.t = true then stepA P true (base + 4 * k) o.dst o.op (runI P ops base ks Q) ⟨⟩ ⟨⟩ st else runI P ops base ks Q (St.put ⟨st.t, st.h, st.n⟩ o.dst .und)
theorem runR_runI {ops : Array Oper} {base : Nat} {Q : St -> Prop} : ∀ (os : List Oper) (k : Nat) (st : St), ops.toList.drop k = os -> runR P true ops base os k Q st -> runI P ops base (List.range' k os.length) Q st
 | [], k, st, _, h => h
 | o :: os, k, st, hd, h => by
  have ho : ops[k]? = some o := by
   have : (ops.toList.drop k)[0]? = some o := by rw [hd]; rfl
   rw [List.getElem?_drop] at this;simpa using this
  have hd' : ops.toList.drop (k + 1) = os := by
   rw [<- List.drop_drop, hd]; rfl
  simp only [List.length_cons, List.range'_succ, runI, ho];simp only [runR] at h;unfold brA at h;split
  ·rename_i hw;rw [if_pos hw] at h;obtain ⟨h', r, he, hk⟩ := step_ef h;exact ef_step he (runR_runI os (k + 1) _ hd' hk)
  ·rename_i hw;rw [if_neg hw] at h;exact runR_runI os (k + 1) _ hd' h
theorem Ef.congr {t t' : Nat -> AV} {h h' : Heap} {id : Nat} {op : Op} {r : AV} (he : ∀ x, x ∈ op.operands -> evA t x = evA t' x) (hr : Ef P id op t h h' r) : Ef P id op t' h h' r := by
 unfold Ef at hr ⊢;split
 ·rename_i hs;rw [if_pos hs] at hr;split at hr
  ·rename_i ty x y;rw [he x (by simp [Op.operands]), he y (by simp [Op.operands])] at hr;exact hr
  ·rename_i args tys;obtain ⟨x, y, ty, ty', h1, h2, hb, h3⟩ := hr;have hx : x ∈ args.toList := by rw [h1]; simp
   have hy : y ∈ args.toList := by rw [h1]; simp
   rw [he x (by simp only [Op.operands, Call.operands]; simpa using hx), he y (by simp only [Op.operands, Call.operands]; simpa using hy)] at h3;rw [he y (by simp only [Op.operands, Call.operands]; simpa using hy)] at hb;exact ⟨x, y, ty, ty', h1, h2, hb, h3⟩
  ·exact hr.elim
 ·rename_i hs;rw [if_neg hs] at hr;obtain ⟨news, h1, h2, h3⟩ := hr;exact ⟨news, h1.congr he, h2, h3⟩
def Alike (ops : Array Oper) (o : Oper) (t t' : Nat -> AV) : Prop := ∀ d, d ∈ o.looksAt ops -> t' d = t d
theorem Alike.ev {ops : Array Oper} {o : Oper} {t t' : Nat -> AV} (h : Alike ops o t t') {x : Operand} (hx : x ∈ o.op.operands) : evA t x = evA t' x := by
 cases x with
 | tmp k => exact (h k (by unfold Oper.looksAt; exact List.mem_append_left _ (List.mem_filterMap.2 ⟨.tmp k, by simpa using hx, rfl⟩))).symm
 | _ => rfl
theorem Alike.want {ops : Array Oper} {o : Oper} {t t' : Nat -> AV} (h : Alike ops o t t') : wantA ops o t' = wantA ops o t := by
 unfold wantA;split
 ·rfl
 ·rename_i j b hg;split
  ·rename_i d hd;rw [h d (by unfold Oper.looksAt; refine List.mem_append_right _ ?_; rw [hg]; simp [hd])]
  ·rfl
theorem Alike.refl (ops : Array Oper) (o : Oper) (t : Nat -> AV) : Alike ops o t t := fun _ _ => rfl
theorem Alike.trans {ops : Array Oper} {o : Oper} {a b c : Nat -> AV} (h : Alike ops o a b) (g : Alike ops o b c) : Alike ops o a c := fun d hd => (g d hd).trans (h d hd)
theorem Alike.put {ops : Array Oper} {o : Oper} {st : St} {h' : Heap} {n' : Nat} {d : Option Tmp} {r : AV} (hd : ∀ k, d = some k -> k ∉ o.looksAt ops) : Alike ops o st.t (St.put ⟨st.t, h', n'⟩ d r).t := by
 intro k hk;cases d with
 | none => rfl
 | some d =>
  show upd st.t d r k = st.t k;exact upd_ne _ _ (by intro e; subst e; exact hd k rfl hk)
theorem put_comm {t : Nat -> AV} {h : Heap} {n : Nat} {d e : Option Tmp} {r q : AV} (hne : ∀ k, d = some k -> e ≠ some k) :
  St.put ⟨(St.put ⟨t, h, n⟩ d r).t, h, n⟩ e q = St.put ⟨(St.put ⟨t, h, n⟩ e q).t, h, n⟩ d r := by
 cases d with
 | none => cases e <;> rfl
 | some d =>
  cases e with
  | none => rfl
  | some e =>
   have hde : d ≠ e := fun x => hne d rfl (by rw [x])
   show (⟨upd (upd t d r) e q, h, n⟩ : St) = ⟨upd (upd t e q) d r, h, n⟩;congr 1
   funext x
   simp only [upd];by_cases h1 : x = e
   ·subst h1; simp [Ne.symm hde]
   ·simp [h1]
theorem put_t {t : Nat -> AV} {h h' : Heap} {n n' : Nat} {d : Option Tmp} {r : AV} : (St.put ⟨t, h, n⟩ d r).t = (St.put ⟨t, h', n'⟩ d r).t := by cases d <;> rfl
@[simp] theorem put_h {t : Nat -> AV} {h : Heap} {n : Nat} {d : Option Tmp} {r : AV} : (St.put ⟨t, h, n⟩ d r).h = h := by cases d <;> rfl
@[simp] theorem put_n {t : Nat -> AV} {h : Heap} {n : Nat} {d : Option Tmp} {r : AV} : (St.put ⟨t, h, n⟩ d r).n = n := by cases d <;> rfl
theorem updL_comm {h : Heap} {x y : Nat} {a b : List HE} (ha : a.length <= 4) (hb : b.length <= 4) (hd : x + 4 <= y \/ y + 4 <= x) : updL (updL h x a) y b = updL (updL h y b) x a := by
 funext i
 simp only [updL_get];split <;> split <;> first | rfl | omega
theorem updL_le {h : Heap} {x : Nat} {a : List HE} (ha : a.length <= 4) (hn : ∀ j, j < 4 -> h (x + j) = none) : HLe h (updL h x a) := by
 intro i e he;rw [updL_get];split
 ·rename_i hc;have := hn (i - x) (by omega);rw [show x + (i - x) = i by omega] at this;rw [this] at he; cases he
 ·exact he
structure Free (ops : Array Oper) (y x : Nat) (oy ox : Oper) : Prop where
 gy : ops[y]? = some oy
 ne : y ≠ x
 ap : oy.apart ops ox = true
theorem Free.d1 {ops : Array Oper} {y x : Nat} {oy ox : Oper} (f : Free ops y x oy ox) : ∀ k, oy.dst = some k -> k ∉ ox.looksAt ops := fun k hk => (Oper.apart_spec f.ap).1 k hk
theorem Free.d2 {ops : Array Oper} {y x : Nat} {oy ox : Oper} (f : Free ops y x oy ox) : ∀ k, ox.dst = some k -> k ∉ oy.looksAt ops := fun k hk => (Oper.apart_spec f.ap).2.2 k hk
theorem Free.d3 {ops : Array Oper} {y x : Nat} {oy ox : Oper} (f : Free ops y x oy ox) : ∀ k, ox.dst = some k -> oy.dst ≠ some k := fun k hk h => (Oper.apart_spec f.ap).2.1 k h hk
theorem cons_one {ops : Array Oper} {base y x : Nat} {oy ox : Oper} {Q : St -> Prop} {ks : List Nat} (f : Free ops y x oy ox) {s : St} {hx : Heap} {rx : AV}
  (hw : wantA ops oy s.t = true) {h1 h2 : Heap} {r1 : AV} (he : Ef P (base + 4 * y) oy.op s.t hx h2 r1) (hk : runI P ops base ks Q (St.put ⟨(St.put ⟨s.t, h1, s.n⟩ oy.dst r1).t, h2, s.n⟩ ox.dst rx)) :
  runI P ops base (y :: ks) Q (St.put ⟨s.t, hx, s.n⟩ ox.dst rx) := by
 have ha : Alike ops oy s.t (St.put ⟨s.t, hx, s.n⟩ ox.dst rx).t := Alike.put f.d2;simp only [runI, f.gy];rw [ha.want, if_pos hw];refine ef_step (h' := h2) (r := r1) ?_ ?_
 ·rw [put_h];exact he.congr fun o ho => ha.ev ho
 ·have e : St.put ⟨(St.put ⟨s.t, hx, s.n⟩ ox.dst rx).t, h2, (St.put ⟨s.t, hx, s.n⟩ ox.dst rx).n⟩ oy.dst r1 = St.put ⟨(St.put ⟨s.t, h1, s.n⟩ oy.dst r1).t, h2, s.n⟩ ox.dst rx := by
   rw [put_n, put_t (h := hx) (h' := h2) (n := s.n) (n' := s.n), put_t (h := h1) (h' := h2) (n := s.n) (n' := s.n)];exact put_comm f.d3
  rw [e]; exact hk
theorem cons_skip {ops : Array Oper} {base y x : Nat} {oy ox : Oper} {Q : St -> Prop} {ks : List Nat} (f : Free ops y x oy ox) {s : St} {hx : Heap} {rx : AV}
  (hw : ¬ wantA ops oy s.t = true) {h1 : Heap} (hk : runI P ops base ks Q (St.put ⟨(St.put ⟨s.t, h1, s.n⟩ oy.dst .und).t, hx, s.n⟩ ox.dst rx)) :
  runI P ops base (y :: ks) Q (St.put ⟨s.t, hx, s.n⟩ ox.dst rx) := by
 have ha : Alike ops oy s.t (St.put ⟨s.t, hx, s.n⟩ ox.dst rx).t := Alike.put f.d2;simp only [runI, f.gy];rw [ha.want, if_neg hw]
 have e : St.put ⟨(St.put ⟨s.t, hx, s.n⟩ ox.dst rx).t, (St.put ⟨s.t, hx, s.n⟩ ox.dst rx).h, (St.put ⟨s.t, hx, s.n⟩ ox.dst rx).n⟩ oy.dst .und = St.put ⟨(St.put ⟨s.t, h1, s.n⟩ oy.dst .und).t, hx, s.n⟩ ox.dst rx := by
  rw [put_n, put_h, put_t (h := h1) (h' := hx) (n := s.n) (n' := s.n)];exact put_comm f.d3
 rw [e]; exact hk
theorem front0 {ops : Array Oper} {base x : Nat} {ox : Oper} (gx : ops[x]? = some ox) {Q : St -> Prop} {post : List Nat} :
  ∀ (pre : List Nat) (s : St), (∀ y, y ∈ pre -> ∃ oy, Free ops y x oy ox) -> (wantA ops ox s.t = true -> sort ox.op = 0) -> runI P ops base (pre ++ x :: post) Q s ->
   ∃ rx t', Alike ops ox s.t t' /\ (wantA ops ox s.t = true -> ∃ h', Rd P (base + 4 * x) ox.op t' h' rx []) /\ (¬ wantA ops ox s.t = true -> rx = .und) /\ runI P ops base (pre ++ post) Q (St.put ⟨s.t, s.h, s.n⟩ ox.dst rx)
 | [], s, _, hs, h => by
  simp only [List.nil_append, runI, gx] at h;split at h
  ·rename_i hw;obtain ⟨h', r, he, hk⟩ := step_ef h;unfold Ef at he;rw [if_neg (by rw [hs hw]; simp)] at he;obtain ⟨news, h1, h2, rfl⟩ := he;obtain ⟨-, rfl⟩ := h1.free (h2 := s.h) (hs hw);exact ⟨r, s.t, Alike.refl _ _ _, fun _ => ⟨_, h1⟩, fun hn => absurd hw hn, hk⟩
  ·rename_i hw;exact ⟨.und, s.t, Alike.refl _ _ _, fun h => absurd h hw, fun _ => rfl, h⟩
 | y :: pre, s, hf, hs, h => by
  obtain ⟨oy, f⟩ := hf y (by simp);simp only [List.cons_append, runI, f.gy] at h ⊢;split at h
  ·rename_i hw;obtain ⟨h1, r1, he, hk⟩ := step_ef h;have ha : Alike ops ox s.t (St.put ⟨s.t, h1, s.n⟩ oy.dst r1).t := Alike.put f.d1;obtain ⟨rx, t', g1, g2, g3, g4⟩ := front0 gx pre _ (fun y hy => hf y (by simp [hy])) (by rw [ha.want]; exact hs) hk;rw [ha.want] at g2 g3;refine ⟨rx, t', ha.trans g1, g2, g3, ?_⟩;have := cons_one (P := P) (base := base) f (hx := s.h) hw (h1 := h1) (h2 := h1) he (by simpa only [put_h, put_n] using g4);simpa only [runI, f.gy] using this
  ·rename_i hw;have ha : Alike ops ox s.t (St.put ⟨s.t, s.h, s.n⟩ oy.dst .und).t := Alike.put f.d1;obtain ⟨rx, t', g1, g2, g3, g4⟩ := front0 gx pre _ (fun y hy => hf y (by simp [hy])) (by rw [ha.want]; exact hs) h;rw [ha.want] at g2 g3;refine ⟨rx, t', ha.trans g1, g2, g3, ?_⟩;have := cons_skip (P := P) (base := base) f (hx := s.h) (h1 := s.h) hw (by simpa only [put_h, put_n] using g4);simpa only [runI, f.gy] using this
theorem front1 {ops : Array Oper} {base x : Nat} {ox : Oper} (gx : ops[x]? = some ox) (hsx : sort ox.op = 1) {Q : St -> Prop} {post : List Nat} :
  ∀ (pre : List Nat) (s : St), (∀ y, y ∈ pre -> ∃ oy, Free ops y x oy ox /\ sort oy.op ≠ 2) -> wantA ops ox s.t = true -> (∀ j, j < 4 -> s.h (base + 4 * x + j) = none) -> runI P ops base (pre ++ x :: post) Q s ->
   ∃ rx nx t' h', Alike ops ox s.t t' /\ (∀ i, (∀ y, y ∈ pre -> ¬ (base + 4 * y <= i /\ i < base + 4 * y + 4)) -> h' i = s.h i) /\ Rd P (base + 4 * x) ox.op t' h' rx nx /\ nx.length <= 4 /\ runI P ops base (pre ++ post) Q (St.put ⟨s.t, updL s.h (base + 4 * x) nx, s.n⟩ ox.dst rx)
 | [], s, _, hw, _, h => by
  simp only [List.nil_append, runI, gx] at h;rw [if_pos hw] at h;obtain ⟨h', r, he, hk⟩ := step_ef h;unfold Ef at he;rw [if_neg (by rw [hsx]; simp)] at he;obtain ⟨news, h1, h2, rfl⟩ := he;exact ⟨r, news, s.t, s.h, Alike.refl _ _ _, fun _ _ => rfl, h1, h2, hk⟩
 | y :: pre, s, hf, hwx, hn, h => by
  obtain ⟨oy, f, hsy⟩ := hf y (by simp);simp only [List.cons_append, runI, f.gy] at h ⊢;split at h
  ·rename_i hw;obtain ⟨h1, r1, he, hk⟩ := step_ef h;have ha : Alike ops ox s.t (St.put ⟨s.t, h1, s.n⟩ oy.dst r1).t := Alike.put f.d1;unfold Ef at he;rw [if_neg hsy] at he;obtain ⟨ny, k1, k2, rfl⟩ := he;have hdis : base + 4 * x + 4 <= base + 4 * y \/ base + 4 * y + 4 <= base + 4 * x := by have := f.ne; omega
   obtain ⟨rx, nx, t', h', g1, g2, g3, g4, g5⟩ := front1 gx hsx pre _ (fun y hy => hf y (by simp [hy])) (by rw [ha.want]; exact hwx) (fun j hj => by
    rw [put_h, updL_get, if_neg (by omega)]; exact hn j hj) hk
   refine ⟨rx, nx, t', h', ha.trans g1, fun i hi => ?_, g3, g4, ?_⟩
   ·rw [g2 i (fun z hz => hi z (by simp [hz])), put_h, updL_get, if_neg];have := hi y (by simp);omega
   ·have hle := updL_le (h := s.h) g4 hn
    have he2 : Ef P (base + 4 * y) oy.op s.t (updL s.h (base + 4 * x) nx) (updL (updL s.h (base + 4 * x) nx) (base + 4 * y) ny) r1 := by
     unfold Ef;rw [if_neg hsy];exact ⟨ny, k1.mono hle hsy, k2, rfl⟩
    have := cons_one (P := P) (base := base) f hw (h1 := updL s.h (base + 4 * y) ny) he2 (by
     rw [updL_comm g4 k2 hdis]
     simpa only [put_h, put_n] using g5)
    simpa only [runI, f.gy] using this
  ·rename_i hw;have ha : Alike ops ox s.t (St.put ⟨s.t, s.h, s.n⟩ oy.dst .und).t := Alike.put f.d1;obtain ⟨rx, nx, t', h', g1, g2, g3, g4, g5⟩ := front1 gx hsx pre _ (fun y hy => hf y (by simp [hy])) (by rw [ha.want]; exact hwx) (fun j hj => by rw [put_h]; exact hn j hj) h;refine ⟨rx, nx, t', h', ha.trans g1, fun i hi => ?_, g3, g4, ?_⟩
   ·rw [g2 i (fun z hz => hi z (by simp [hz])), put_h]
   ·have := cons_skip (P := P) (base := base) f (hx := updL s.h (base + 4 * x) nx) (h1 := s.h) hw (by simpa only [put_h, put_n] using g5);simpa only [runI, f.gy] using this
theorem front2 {ops : Array Oper} {base x : Nat} {ox : Oper} (gx : ops[x]? = some ox) {Q : St -> Prop} {post : List Nat} :
  ∀ (pre : List Nat) (s : St), (∀ y, y ∈ pre -> ∃ oy, Free ops y x oy ox /\ sort oy.op = 0) -> wantA ops ox s.t = true -> runI P ops base (pre ++ x :: post) Q s ->
   ∃ rx t' h', Alike ops ox s.t t' /\ Ef P (base + 4 * x) ox.op t' s.h h' rx /\ runI P ops base (pre ++ post) Q (St.put ⟨s.t, h', s.n⟩ ox.dst rx)
 | [], s, _, hw, h => by
  simp only [List.nil_append, runI, gx] at h;rw [if_pos hw] at h;obtain ⟨h', r, he, hk⟩ := step_ef h;exact ⟨r, s.t, h', Alike.refl _ _ _, he, hk⟩
 | y :: pre, s, hf, hwx, h => by
  obtain ⟨oy, f, hsy⟩ := hf y (by simp);have hsy2 : sort oy.op ≠ 2 := by rw [hsy]; simp
  simp only [List.cons_append, runI, f.gy] at h ⊢;split at h
  ·rename_i hw;obtain ⟨h1, r1, he, hk⟩ := step_ef h;unfold Ef at he;rw [if_neg hsy2] at he;obtain ⟨ny, k1, k2, rfl⟩ := he;obtain ⟨-, rfl⟩ := k1.free (h2 := s.h) hsy;have ha : Alike ops ox s.t (St.put ⟨s.t, s.h, s.n⟩ oy.dst r1).t := Alike.put f.d1;obtain ⟨rx, t', h', g1, g2, g3⟩ := front2 gx pre _ (fun y hy => hf y (by simp [hy])) (by rw [put_t (h' := s.h) (n' := s.n), ha.want]; exact hwx) hk;rw [put_h] at g2;have g1' : Alike ops ox s.t t' := ha.trans (by rw [put_t (h' := s.h) (n' := s.n)] at g1; exact g1);refine ⟨rx, t', h', g1', g2, ?_⟩
   have he2 : Ef P (base + 4 * y) oy.op s.t h' h' r1 := by
    unfold Ef;rw [if_neg hsy2];exact ⟨[], (k1.free hsy).1, by simp, rfl⟩
   have := cons_one (P := P) (base := base) f hw (h1 := s.h) he2 (by simpa only [put_h, put_n, updL] using g3);simpa only [runI, f.gy] using this
  ·rename_i hw;have ha : Alike ops ox s.t (St.put ⟨s.t, s.h, s.n⟩ oy.dst .und).t := Alike.put f.d1;obtain ⟨rx, t', h', g1, g2, g3⟩ := front2 gx pre _ (fun y hy => hf y (by simp [hy])) (by rw [ha.want]; exact hwx) h;rw [put_h] at g2;refine ⟨rx, t', h', ha.trans g1, g2, ?_⟩;have := cons_skip (P := P) (base := base) f (hx := h') (h1 := s.h) hw (by simpa only [put_h, put_n, updL] using g3);simpa only [runI, f.gy] using this
def closA (ops : Array Oper) : Array (List Nat) :=
 ops.toList.foldl (fun acc o => acc.push ((o.after.toList.foldl (fun s e => if Region.binds .any e then (e.on :: acc.getD e.on []) ++ s else s) []).eraseDups)) #[]
def pairOk (a b : Nat) : Bool := a == 0 || b == 0 || (a == 1 && b == 1)
def drawOk (ops : Array Oper) : Bool :=
 let M := closA ops
 (List.range ops.size).all fun x => match ops[x]? with
  | none => false
  | some ox => (ox.after.toList.all fun e => !Region.binds .any e || decide (e.on < x)) &&
   ((M.getD x []).all fun y => ox.after.toList.any fun e => Region.binds .any e && (e.on == y || (M.getD e.on []).contains y)) &&
   ((List.range x).all fun y => (M.getD x []).contains y || match ops[y]? with
    | none => false
    | some oy => oy.apart ops ox && pairOk (sort oy.op) (sort ox.op))
variable {B : Nat} {W0 : World} {nt : Nat}
def left (n : Nat) (listed : Array Bool) : List Nat := (List.range n).filter fun k => !listed.getD k true
theorem left_split {n x : Nat} {listed : Array Bool} (hx : x < n) (hl : listed.getD x true = false) :
  ∃ pre post, left n listed = pre ++ x :: post /\ left n (listed.setIfInBounds x true) = pre ++ post /\ ∀ y, y ∈ pre -> y < x /\ listed.getD y true = false := by
 have hr : List.range n = List.range x ++ x :: List.range' (x + 1) (n - x - 1) := by
  rw [List.range_eq_range', List.range_eq_range'];have e : n = x + (n - x - 1 + 1) := by omega
  conv => lhs; rw [e]
  rw [<- List.range'_append_1, List.range'_succ];simp
 refine ⟨(List.range x).filter fun k => !listed.getD k true, (List.range' (x + 1) (n - x - 1)).filter fun k => !listed.getD k true, ?_, ?_, fun y hy => ?_⟩
 ·unfold left;rw [hr, List.filter_append, List.filter_cons];simp [hl]
 ·unfold left;rw [hr, List.filter_append, List.filter_cons]
  have hs : (listed.setIfInBounds x true).getD x true = true := by
   by_cases h : x < listed.size <;> simp [h]
  have hne : ∀ k, k ≠ x -> (listed.setIfInBounds x true).getD k true = listed.getD k true := fun k hk => getD_set_ne true (Ne.symm hk)
  rw [hs];simp only [Bool.not_true, Bool.false_eq_true, if_false];congr 1
  ·apply List.filter_congr;intro k hk;rw [hne k (by simp at hk; omega)]
  ·apply List.filter_congr;intro k hk;rw [hne k (by simp at hk; omega)]
 ·simp only [List.mem_filter, List.mem_range, Bool.not_eq_true'] at hy;exact hy
theorem closed_mem {ops : Array Oper} (hd : drawOk ops = true) {listed : Array Bool} (hcl : ∀ k o, ops[k]? = some o -> listed.getD k true = true -> ∀ e, e ∈ o.after -> Region.binds .any e = true -> listed.getD e.on false = true) :
  ∀ (x : Nat) (ox : Oper), ops[x]? = some ox -> (∀ e, e ∈ ox.after -> Region.binds .any e = true -> listed.getD e.on false = true) -> ∀ y, y ∈ (closA ops).getD x [] -> listed.getD y false = true := by
 intro x
 induction x using Nat.strongRecOn with
 | _ x ih =>
  intro ox hox hre y hy;have hlt : x < ops.size := (Array.getElem?_eq_some_iff.1 hox).1;have h0 := List.all_eq_true.1 hd x (by simpa using hlt);simp only [hox, Bool.and_eq_true] at h0;obtain ⟨⟨h1, h2⟩, -⟩ := h0;obtain ⟨e, he, hc⟩ := List.any_eq_true.1 (List.all_eq_true.1 h2 y hy);simp only [Bool.and_eq_true, Bool.or_eq_true, beq_iff_eq, List.contains_iff_mem] at hc;obtain ⟨hb, hc⟩ := hc;have hel := hre e (by simpa using he) hb;rcases hc with rfl | hc
  ·exact hel
  ·have hon : e.on < x := by
    have := List.all_eq_true.1 h1 e he;simp only [hb, Bool.not_true, Bool.false_or, decide_eq_true_eq] at this;exact this
   obtain ⟨oe, hoe⟩ : ∃ oe, ops[e.on]? = some oe := ⟨ops[e.on]'(by omega), by simp⟩
   have hel' : listed.getD e.on true = true := by
    cases hq : listed[e.on]? with
    | none => simp [hq] at hel
    | some b => simp [hq] at hel ⊢; exact hel
   exact ih e.on hon oe hoe (hcl e.on oe hoe hel') y hc
theorem draw_any (T : TypesOk P) {ρ0 : Nat -> Option Place} {ok0 : Nat -> Prop} {w0 : World} {n0 : Nat} {ops : Array Oper} {base : Nat} (hb0 : n0 <= base) (hd : drawOk ops = true) (hok : (ops.toList.all (operOk nt)) = true) {Q : St -> Prop} {Qc : Exit -> Act -> World -> Prop}
  (hQ : ∀ st a w, Q st -> Since B W0 nt ρ0 ok0 w0 n0 st a w -> Qc .normal a w) :
  ∀ (fuel : Nat) (listed : Array Bool) (st : St) (a : Act) (w : World) (ρ : Nat -> Option Place) (ok : Nat -> Prop), listed.size = ops.size -> (left ops.size listed).length <= fuel ->
   (∀ k o, ops[k]? = some o -> listed.getD k true = true -> ∀ e, e ∈ o.after -> Region.binds .any e = true -> listed.getD e.on false = true) ->
   Rl B W0 ρ ok nt st a w -> Ext (fun i => n0 <= i) ρ0 ρ ok0 ok w0 w -> base + 4 * ops.size <= st.n -> (∀ k, k ∈ left ops.size listed -> ∀ j, j < 4 -> ρ (base + 4 * k + j) = none) -> runI P ops base (left ops.size listed) Q st -> wpAny P .any ops Qc fuel listed a w := by
 intro fuel
 have hready : ∀ (listed : Array Bool), listed.size = ops.size -> Region.ready .any ops listed = [] -> left ops.size listed = [] := by
  intro listed hsz hr;cases hl : left ops.size listed with
  | nil => rfl
  | cons x rest =>
   exfalso;have hx : x ∈ left ops.size listed := by rw [hl]; simp
   simp only [left, List.mem_filter, List.mem_range, Bool.not_eq_true'] at hx;obtain ⟨ox, hox⟩ : ∃ o, ops[x]? = some o := ⟨ops[x]'hx.1, by simp⟩
   have hmem : x ∈ Region.ready .any ops listed := by
    rw [mem_ready];refine ⟨hx.2, ox, hox, fun e he hb => ?_⟩;have h0 := List.all_eq_true.1 hd x (by simpa using hx.1);simp only [hox, Bool.and_eq_true] at h0
    have hon : e.on < x := by
     have := List.all_eq_true.1 h0.1.1 e (by simpa using he);simp only [hb, Bool.not_true, Bool.false_or, decide_eq_true_eq] at this;exact this
    have hnot : listed.getD e.on true = true := by
     cases hq : listed.getD e.on true with
     | true => rfl
     | false =>
      exfalso;obtain ⟨pre, post, h1, -, h3⟩ := left_split hx.1 hx.2
      have hpre : pre = [] := by
       cases pre with
       | nil => rfl
       | cons z zs =>
        rw [h1] at hl;simp at hl;have := h3 z (by simp);omega
      subst hpre
      have hin : e.on ∈ left ops.size listed := by
       simp only [left, List.mem_filter, List.mem_range, Bool.not_eq_true'];exact ⟨by omega, hq⟩
      have hs : (left ops.size listed).Pairwise (· < ·) := (List.pairwise_lt_range).filter _;rw [hl] at hin hs;simp only [List.mem_cons] at hin;rcases hin with hin | hin
      ·omega
      ·have := (List.pairwise_cons.1 hs).1 _ hin;omega
    have : e.on < listed.size := by omega
    simp [this] at hnot ⊢;exact hnot
   rw [hr] at hmem; cases hmem
 induction fuel with
 | zero =>
  intro listed st a w ρ ok hsz hlen hcl R x hn hfree hr;have hl0 : left ops.size listed = [] := List.eq_nil_of_length_eq_zero (by omega);rw [hl0] at hr;refine ⟨?_, hQ st a w hr ⟨ρ, ok, R, x, by omega⟩⟩;cases hre : Region.ready .any ops listed with
  | nil => rfl
  | cons i rest =>
   exfalso;have hi : i ∈ Region.ready .any ops listed := by rw [hre]; simp
   obtain ⟨h1, oi, h2, _⟩ := mem_ready.1 hi
   have : i ∈ left ops.size listed := by
    simp only [left, List.mem_filter, List.mem_range, Bool.not_eq_true'];exact ⟨(Array.getElem?_eq_some_iff.1 h2).1, h1⟩
   rw [hl0] at this; cases this
 | succ fuel ih =>
  intro listed st a w ρ ok hsz hlen hcl R x hn hfree hr;refine ⟨fun hre => ?_, fun i hi => ?_⟩
  ·have hl0 := hready listed hsz hre;rw [hl0] at hr;exact hQ st a w hr ⟨ρ, ok, R, x, by omega⟩
  ·obtain ⟨hli, oi, hoi, hre⟩ := mem_ready.1 hi;have hlt : i < ops.size := (Array.getElem?_eq_some_iff.1 hoi).1;obtain ⟨pre, post, hl1, hl2, hl3⟩ := left_split hlt hli;have hopi := List.all_eq_true.1 hok oi (by rw [<- Array.getElem?_toList] at hoi; exact List.mem_of_getElem? hoi);simp only [operOk, Bool.and_eq_true] at hopi;have h0 := List.all_eq_true.1 hd i (by simpa using hlt);simp only [hoi, Bool.and_eq_true] at h0
   have hpre : ∀ y, y ∈ pre -> ∃ oy, Free ops y i oy oi /\ pairOk (sort oy.op) (sort oi.op) = true := by
    intro y hy;obtain ⟨hyi, hyl⟩ := hl3 y hy;have h1 := List.all_eq_true.1 h0.2 y (by simpa using hyi);simp only [Bool.or_eq_true] at h1;rcases h1 with h1 | h1
    ·exfalso;have := closed_mem hd hcl i oi hoi hre y (by simpa using h1);have hys : y < listed.size := by omega
     simp [hys] at this hyl;rw [this] at hyl; cases hyl
    ·obtain ⟨oy, hoy⟩ : ∃ oy, ops[y]? = some oy := ⟨ops[y]'(by omega), by simp⟩;simp only [hoy, Bool.and_eq_true] at h1;exact ⟨oy, ⟨hoy, by omega, h1.1⟩, h1.2⟩
   have hmem : ∀ k, k ∈ pre ++ post -> k ∈ left ops.size listed /\ k ≠ i := by
    intro k hk;have h1 : k ∈ left ops.size (listed.setIfInBounds i true) := by rw [hl2]; exact hk
    have h2 : k ∈ left ops.size listed := by
     rw [hl1];rcases List.mem_append.1 hk with h | h
     ·exact List.mem_append_left _ h
     ·exact List.mem_append_right _ (List.mem_cons_of_mem _ h)
    refine ⟨h2, fun e => ?_⟩;subst e;simp only [left, List.mem_filter, List.mem_range, Bool.not_eq_true'] at h1;have hks : k < listed.size := by omega
    simp [hks] at h1
   have himem : i ∈ left ops.size listed := by rw [hl1]; simp
   have hcl' : ∀ k o, ops[k]? = some o -> (listed.setIfInBounds i true).getD k true = true -> ∀ e, e ∈ o.after -> Region.binds .any e = true -> (listed.setIfInBounds i true).getD e.on false = true := by
    intro k o hk hkl e he hb;refine getD_set_true ?_;by_cases hki : k = i
    ·subst hki;rw [hoi] at hk; cases hk
     exact hre e he hb
    ·rw [getD_set_ne true (Ne.symm hki)] at hkl;exact hcl k o hk hkl e he hb
   have hlen' : (left ops.size (listed.setIfInBounds i true)).length <= fuel := by
    rw [hl2]; rw [hl1] at hlen; simp at hlen ⊢; omega
   have hnone : ∀ j, j < 4 -> st.h (base + 4 * i + j) = none := by
    intro j hj;have hp := hfree i himem j hj;cases hq : st.h (base + 4 * i + j) with
    | none => rfl
    | some e =>
     exfalso;rcases R.heap.row _ e hq with ⟨q, _⟩ | ⟨b, cap, cur, q, _⟩ <;> (rw [hp] at q; cases q)
   have rest : ∀ st' a' w' ρ' ok', runI P ops base (pre ++ post) Q st' -> Rl B W0 ρ' ok' nt st' a' w' -> Ext (Names (base + 4 * i) st.n) ρ ρ' ok ok' w w' -> st.n <= st'.n -> wpAny P .any ops Qc fuel (listed.setIfInBounds i true) a' w' := by
    intro st' a' w' ρ' ok' hk R' x' hn';refine ih _ st' a' w' ρ' ok' (by simpa using hsz) hlen' hcl' R' (x.trans (x'.weaken fun z hz => ?_)) (by omega) (fun k hk' j hj => ?_) (by rw [hl2]; exact hk)
    ·rcases hz with hz | hz <;> omega
    ·rw [hl2] at hk';obtain ⟨g1, g2⟩ := hmem k hk'
     have hkl : k < ops.size := by
      simp only [left, List.mem_filter, List.mem_range] at g1; exact g1.1
     rw [x'.pl _ (by rintro (hz | hz) <;> omega)];exact hfree k g1 j hj
   unfold wpOp;simp only [hoi];rw [want_sound R ops oi];rw [hl1] at hr;by_cases hw : wantA ops oi st.t = true
   ·rw [if_pos hw];refine Or.inl ?_
    have go : ∀ {h' : Heap} {r : AV}, Ef P (base + 4 * i) oi.op st.t st.h h' r -> runI P ops base (pre ++ post) Q (St.put ⟨st.t, h', st.n⟩ oi.dst r) -> oi.wp P a w (wpAny P .any ops Qc fuel (listed.setIfInBounds i true)) Qc := by
     intro h' r he hk;exact step_sound (draw := true) T R hopi.1 hopi.2 (by omega) (hfree i himem) (ef_step (K := runI P ops base (pre ++ post) Q) he hk) rest
    have hsort : sort oi.op = 0 \/ sort oi.op = 1 \/ sort oi.op = 2 := by
     unfold sort; split <;> simp
    rcases hsort with hs | hs | hs
    ·obtain ⟨rx, t', g1, g2, -, g4⟩ := front0 hoi pre st (fun y hy => (hpre y hy).imp fun oy h => h.1) (fun _ => hs) hr;obtain ⟨h', g2⟩ := g2 hw;refine go (h' := st.h) (r := rx) ?_ g4;unfold Ef;rw [if_neg (by rw [hs]; simp)];exact ⟨[], ((g2.free (h2 := st.h) hs).1).congr (fun o ho => (g1.ev ho).symm), by simp, rfl⟩
    ·obtain ⟨rx, nx, t', h', g1, g2, g3, g4, g5⟩ := front1 hoi hs pre st (fun y hy => by
      obtain ⟨oy, f, hp⟩ := hpre y hy;refine ⟨oy, f, fun e => ?_⟩
      rw [e, hs] at hp; simp [pairOk] at hp) hw hnone hr
     refine go (h' := updL st.h (base + 4 * i) nx) (r := rx) ?_ g5;unfold Ef;rw [if_neg (by rw [hs]; simp)];refine ⟨nx, Rd.less R (fun z hz => g2 z fun y hy hc => ?_) hopi.1 (by rw [hs]; simp) (g3.congr (fun o ho => (g1.ev ho).symm)), g4, rfl⟩;have hyl : y ∈ left ops.size listed := by rw [hl1]; exact List.mem_append_left _ hy
     have := hfree y hyl (z - (base + 4 * y)) (by omega);rw [show base + 4 * y + (z - (base + 4 * y)) = z by omega] at this;exact hz this
    ·obtain ⟨rx, t', h', g1, g2, g3⟩ := front2 hoi pre st (fun y hy => by
      obtain ⟨oy, f, hp⟩ := hpre y hy;refine ⟨oy, f, ?_⟩
      rw [hs] at hp; simpa [pairOk] using hp) hw hr
     exact go (h' := h') (r := rx) (g2.congr (fun o ho => (g1.ev ho).symm)) g3
   ·rw [if_neg hw];obtain ⟨rx, t', -, -, g3, g4⟩ := front0 hoi pre st (fun y hy => (hpre y hy).imp fun oy h => h.1) (fun h => absurd h hw) hr;have := g3 hw;subst this;exact rest _ _ _ _ _ g4 (R.put (Ext.refl (Names (base + 4 * i) st.n) ρ ok w) R.heap (dst_lt hopi.2) .und) (Ext.refl _ _ _ _) (by cases oi.dst <;> exact Nat.le_refl _)
theorem draw_sound (T : TypesOk P) (hm : P.follows .mixedOrders = true) {ρ0 : Nat -> Option Place} {ok0 : Nat -> Prop} {w0 : World} {n0 : Nat} {id : Nat} {ops : Array Oper} (hd : drawOk ops = true) (hok : (ops.toList.all (operOk nt)) = true) {Q : St -> Prop} {st : St} {a : Act} {w : World} (S : Since B W0 nt ρ0 ok0 w0 n0 st a w)
  (hr : runR P true ops st.n ops.toList 0 Q ⟨st.t, st.h, st.n + 4 * ops.size⟩) {Qc : Exit -> Act -> World -> Prop} (hQ : ∀ st a w, Q st -> Since B W0 nt ρ0 ok0 w0 n0 st a w -> Qc .normal a w) : (Code.region id ops true).wp P Qc a w := by
 obtain ⟨ρ, ok, R, x, hn⟩ := S;have hdrew : Below B w w.drew := (Below.refl _ _).drew
 have R' : Rl B W0 ρ ok nt ⟨st.t, st.h, st.n + 4 * ops.size⟩ a w.drew := by
  refine ⟨⟨R.heap.below.drew, R.heap.base, R.heap.okb, fun i hi => R.heap.fresh i (by simp only at hi; omega), fun i e he => ?_, R.heap.inj⟩, fun k => (R.tmps k).mono (fun _ _ => rfl) (fun b hb => ⟨hb, rfl⟩), R.size, R.defers⟩;rcases R.heap.row i e he with h | ⟨b, cap, cur, q1, q2, q3, q4, q5, q6, q7, q8, q9, q10⟩
  ·exact Or.inl h
  ·exact Or.inr ⟨b, cap, cur, q1, q2, q3, q4, q5, q6, q7, q8, q9, q10.1, q10.2.1, fun j c u hc hu => (q10.2.2 j c u hc hu).mono (fun _ _ => rfl) (fun b hb => ⟨hb, rfl⟩)⟩
 have x' : Ext (fun i => n0 <= i) ρ0 ρ ok0 ok w0 w.drew := ⟨x.pl, x.keep, x.stay, x.new, x.size⟩
 have hrep : ∀ k, (Array.replicate ops.size false).getD k true = true -> ops.size <= k := by
  intro k hk;by_cases h : k < ops.size
  ·simp [h] at hk
  ·omega
 have hleft : left ops.size (Array.replicate ops.size false) = List.range ops.size := by
  unfold left;rw [List.filter_eq_self];intro k hk;simp at hk;simp [hk]
 refine wp_region_any hm ?_;refine draw_any T hn hd hok hQ ops.size _ ⟨st.t, st.h, st.n + 4 * ops.size⟩ a w.drew ρ ok (by simp) (by rw [hleft]; simp) (fun k o hk hl => ?_) R' x' (Nat.le_refl _) (fun k hk j hj => ?_) ?_
 ·have h1 := hrep k hl;have h2 := (Array.getElem?_eq_some_iff.1 hk).1;omega
 ·rw [hleft] at hk;exact R.heap.fresh _ (by omega)
 ·rw [hleft, List.range_eq_range'];have := runR_runI (P := P) (ops := ops) (base := st.n) (Q := Q) ops.toList 0 ⟨st.t, st.h, st.n + 4 * ops.size⟩ rfl hr;simpa using this
end
end Go.Proofs.YtadmfokicjjglaaGreatDoor.E
