/- Q1: Xa: bytes: grown, joined, cloned, compared. Xb: disk.lines. Xc: disks: checked, compared, put, synced, crashed, recovered. Xd: lists of records compared. Xf: rows of records grown, joined; law.filed. -/
import Derived.Test.YtadmfokicjjglaaGreatDoorV2
import Derived.Test.YtadmfokicjjglaaGreatDoorX3
import Derived.Test.YtadmfokicjjglaaGreatDoorY0
import Derived.Test.YtadmfokicjjglaaGreatDoorSq
import Derived.Test.YtadmfokicjjglaaGreatDoorX4
namespace Go.Proofs.YtadmfokicjjglaaGreatDoor.E
open Go.RowKit Go.Proofs
set_option linter.unusedVariables false
set_option linter.unusedSimpArgs false
set_option maxRecDepth 100000
set_option maxHeartbeats 1000000
theorem info_byte : (Tryz.prog.info? 5).map (fun i => (i.zero, i.size, i.bytes)) = some (some (.int .u8 0), 1, 1) := by kernel_rfl
@[simp] theorem B8_app (xs ys : List UInt8) : B8 xs ++ B8 ys = B8 (xs ++ ys) := by simp [B8]
@[simp] theorem B8_take (xs : List UInt8) (n : Nat) : (B8 xs).take n = B8 (xs.take n) := by simp [B8]
@[simp] theorem B8_drop (xs : List UInt8) (n : Nat) : (B8 xs).drop n = B8 (xs.drop n) := by simp [B8]
@[simp] theorem B8_nil : B8 [] = [] := rfl
theorem B8_shown (h : Heap) (av : List Nat) (d : Nat) (xs : List UInt8) : (B8 xs).mapM (fun (r : List AV) => r.mapM (leafP h av d)) = some (B8 xs) := by
 unfold B8;refine mapM_map (fun x => ?_) xs;cases d <;> rfl
@[simp] theorem B8_fresh (xs : List UInt8) : ((B8 xs).all fun r => r.all freshCell) = true := by simp [B8, freshCell]
attribute [simp] B8_shown
theorem plain_B8 (xs : List UInt8) {el : TypeId} {s : Nat} : plainNews [⟨el, s, B8 xs⟩] = true := by
 simp [plainNews, B8, plainCell]
theorem grow_byte (o : Option Addr) (n : Nat) (w : World) (hn : n <= 1000000) :
  Calls Tryz.prog 103 #[.slice o 0 0, .int .i64 n] w fun e w' => ∃ a c, e = .returned (.slice a 0 c) /\ (c = 0 \/ w'.ownsRow w.heap.size 5 1 (.slice a 0 c) 0 []) /\ Below w.heap.size w w' := by
 obtain ⟨i0, hi0, hz0, hz1, hz2⟩ := info_parts info_byte;by_cases c0 : n = 0
 ·subst c0;go_enter Tryz.func103, Tryz.ntmps103
  go_wp2_with fail
  go_ret
  exact ⟨o, 0, rfl, Or.inl rfl, Below.refl _ _⟩
 ·have c1 : 0 < n := by omega
  have hrz := fun ty => Lib.run_append_grow_zeros (P := Tryz.prog) w 31 3 ty 5 i0 (.int .u8 0) .i64 .i64 Tryz.underlying31 Tryz.underlying3 hi0 hz0 o 0 0 [] (run_first0 w.drew i0.size o) n c1 (by omega) (by omega) (by omega)
   (by rw [hz2]; omega) (growslice_fits (by omega) (by rw [hz2]; omega))
  simp only [Nat.zero_add] at hrz;have hG1 := grownCap_ge w n 0 5;have hG2 := grownCap_le_maxLen w n 0 5 (by unfold maxLen; omega);generalize grownCap w n 0 5 = G at *;generalize hcs : (#[] ++ Builtin.zeroCells (Value.cells (.int .u8 0)) n ++ Builtin.zeroCells (Value.cells (.int .u8 0)) (G - n)) = cs at *;have hsz : cs.size = G * 1 := by rw [<- hcs]; simp [zeroCells_size, Value.cells]; omega
  have hsz := hid hsz;clear hcs c0 hi0 hz0 hz1 hz2;have hG2 := hid hG2;go_enter Tryz.func103, Tryz.ntmps103
  go_wp2_with (at_builtin; refine Lib.wpList_append_run _ rfl _ _ _ _ rfl _ _ rfl rfl _ _ (hrz _) ?_)
  all_goals
   go_ret
   refine ⟨_, _, rfl, Or.inr (World.ownsRow_made w.drew cs G (Nat.le_refl _) hG2.out hsz.out), ?_⟩;exact ((Below.refl _ w).drew).alloc (Nat.le_refl _) _
theorem grow_bytes (n : Nat) (hn : n <= 1000000) : C Tryz.prog 103 [.nl, .at (.int .i64 n)] (.own 0 0 0) [⟨5, 1, []⟩] := by
 refine C_own_empty (by omega) (fun _ _ => by kernel_rfl) fun F w vs h => ?_
 obtain ⟨hl, hv⟩ := h
 match vs, hl with
 | [x, y], _ =>
  have h0 := hv 0 _ _ rfl rfl;have h1 := hv 1 _ _ rfl rfl;cases h0; cases h1
  exact grow_byte _ n w hn
theorem own_outB {h : Heap} {i n : Nat} {ty : TypeId} {ks : List UInt8} (hi : h i = some ⟨ty, 1, B8 ks⟩) (hn : n = ks.length) : outLeaf h [] (.own i 0 n) = some (.lst true 1 (B8 ks)) := by
 subst hn
 have e2 : leafP h [] 3 (.own i 0 ks.length) = some (.lst false 1 (B8 ks)) := by
  show (match h i with | some e => if 0 + ks.length <= e.rows.length then (((e.rows.drop 0).take ks.length).mapM fun (r : List AV) => r.mapM (leafP h [] 2)).map (AV.lst false e.s ·) else none | none => none) = _;rw [hi];simp only [List.drop_zero];rw [if_pos (by simp), List.take_of_length_le (by simp), B8_shown];rfl
 show (match h i, leafP h [] 3 (.own i 0 ks.length) with | some e, some (.lst _ s rows) => some (AV.lst (e.rows.all fun r => r.all freshCell) s rows) | _, _ => none) = _;rw [hi, e2];simp only [B8_fresh]
theorem concat_bytes (xs ys : List UInt8) (hx : xs.length <= 100000) (hy : ys.length <= 100000) : C Tryz.prog 67 [.lst false 1 [[.lst false 1 (B8 xs)], [.lst false 1 (B8 ys)]]] (.lst true 1 (B8 (xs ++ ys))) [] := by
 have w1 : IntKind.i64.wrap (xs.length : Int) = xs.length := wrap_ok (by omega);have w2 : IntKind.i64.wrap ((xs.length : Int) + ys.length) = (xs.length : Int) + ys.length := wrap_ok (by omega);have d1 : decide ((xs.length : Int) < 0) = false := by simp
 have d2 : decide ((xs.length : Int) + ys.length < 0) = false := by simp; omega
 have d3 : decide (100000000 < xs.length) = false := by simp; omega
 have d4 : decide (100000000 < ys.length) = false := by simp; omega
 have d5 : xs.length <= 100000000 := by omega
 have hg := grow_bytes (xs.length + ys.length) (by omega);simp only [Int.natCast_add] at hg;replace hg := hid hg;replace hx := hid hx;replace hy := hid hy;refine CI Tryz.func67 ?_;refine rN ?_;refine loop_unroll 3 ?_;refine rD (aN w1 (aN w2 (aN d1 d2))) hg.out ?_;refine rN ?_;refine loop_unroll 3 ?_;refine rS (aN d3 (aN d4 d5)) ?_;exact ⟨⟨_, own_outB (ks := xs ++ ys) (by rfl) (by simp), Sub.refl _⟩, rfl⟩
theorem clone_byte_rows (rows : List (List AV)) (hlen : rows.length <= 100000000) (hp : plainNews [⟨5, 1, rows⟩] = true) : C Tryz.prog 66 [.lst false 1 rows] (.own 0 0 rows.length) [⟨5, 1, rows⟩] := by
 cases rows with
 | nil =>
  have h1 : C Tryz.prog 66 [.nilv] .nl [] := by
   refine CI Tryz.func66 ?_;simp -dsimp -implicitDefEqProofs [initT];exact ⟨⟨_, rfl, Sub.refl _⟩, rfl⟩
  have h2 : C Tryz.prog 66 [.nn] (.own 0 0 0) [⟨5, 1, []⟩] := by
   refine C_inline [20] Tryz.func66 (fun _ _ => by kernel_rfl) rfl (by kernel_rfl) (by rfl) (by decide) (by rfl) (by rfl) (by first | rfl | exact plain_I _ | exact plain_map (fun _ => rfl) _) ?_;simp -dsimp -implicitDefEqProofs [initT];exact ⟨⟨_, rfl, Sub.refl _⟩, rfl⟩
  exact C_empty (C_nl_own h1) h2
 | cons x xs =>
  refine C_inline [20] Tryz.func66 (fun _ _ => by kernel_rfl) rfl (by kernel_rfl) (by rfl) (by decide) (by rfl) (by rfl) hp ?_;have hw : decide (100000000 < xs.length + 1) = false := by simp at hlen ⊢; omega
  simp -dsimp -implicitDefEqProofs [initT];simp only [hw];simp -dsimp -implicitDefEqProofs;exact ⟨⟨_, rfl, Sub.refl _⟩, rfl⟩
theorem clone_bytes (xs : List UInt8) (hlen : xs.length <= 100000000) : C Tryz.prog 66 [.lst false 1 (B8 xs)] (.own 0 0 xs.length) [⟨5, 1, B8 xs⟩] := by
 have := clone_byte_rows (B8 xs) (by simpa using hlen) (plain_B8 xs);simpa only [B8_length] using this
theorem equal_bytes (xs ys : List UInt8) : C Tryz.prog 71 [.lst false 1 (B8 xs), .lst false 1 (B8 ys)] (Bool' (decide (xs = ys))) [] := by
 refine C_real (fun _ _ => by kernel_rfl) rfl rfl fun hr => ?_
 have hlen := (hr.get (j := 0) rfl).len;clear hr;rw [B8_length] at hlen;unfold maxLen at hlen;refine CI Tryz.func71 ?_;simp -dsimp -implicitDefEqProofs [initT];refine brA_split (fun h1 => ?_) (fun h1 => ?_) <;> simp -dsimp -implicitDefEqProofs [*]
 rotate_left
 ·refine ends_bool ?_;simp at h1;simp;intro e; subst e; simp at h1
 simp at h1;have hl : xs.length = ys.length := by omega
 refine loop_count 13 xs.length (fun k h _ _ => h = _ /\ Hid (∀ j, j < k -> xs[j]? = ys[j]?)) _ rfl (by rfl) ⟨rfl, by intro j hj; omega⟩ ?_ ?_
 ·rintro k t h m hk hci hs ⟨rfl, hb⟩;have e0 := hs 0 rfl;have e1 := hs 1 rfl;have e12 := hs 12 rfl;clear hs;simp -dsimp -implicitDefEqProofs at e0 e1 e12;have hw : IntKind.i64.wrap ((k : Int) + 1) = (k : Int) + 1 := wrap_ok (by omega);have hlt : decide (k < xs.length) = true := by simp; exact hk
  have hlt2 : decide (k < ys.length) = true := by simp; omega
  obtain ⟨x, hx⟩ : ∃ x, xs[k]? = some x := ⟨xs[k], by simp⟩;obtain ⟨y, hy⟩ : ∃ y, ys[k]? = some y := ⟨ys[k]'(by omega), by simp⟩;replace hk := hid hk;replace hl := hid hl;by_cases hxy : x = y
  ·subst hxy;simp -dsimp -implicitDefEqProofs [*];refine hid fun j hj => ?_
   rcases Nat.lt_or_ge j k with g | g
   ·exact hb.out j g
   ·have : j = k := by omega
    subst this;rw [hx, hy]
  ·have hxy' : decide ((x.toNat : Int) = (y.toNat : Int)) = false := decide_eq_false fun e => hxy (UInt8.toNat_inj.1 (Int.ofNat.inj e))
   simp -dsimp -implicitDefEqProofs [*];refine ends_bool ?_;symm
   simp;rintro rfl;rw [hx] at hy;exact hxy (Option.some.inj hy)
 ·rintro t h m hci hs ⟨rfl, hb⟩;have e0 := hs 0 rfl;have e1 := hs 1 rfl;have e12 := hs 12 rfl;clear hs;simp -dsimp -implicitDefEqProofs at e0 e1 e12;simp -dsimp -implicitDefEqProofs [*];refine ends_bool ?_;symm
  simp;apply List.ext_getElem?;intro j;rcases Nat.lt_or_ge j xs.length with g | g
  ·exact hb.out j g
  ·rw [List.getElem?_eq_none g, List.getElem?_eq_none (by omega)]
set_option maxHeartbeats 2000000
theorem recs_plain (x : S.Rec) : (recC false x).all plainCell = true := rfl
theorem recs_unfr (x : S.Rec) : (recC false x).map unfr = recC false x := rfl
theorem C_ofE {P : Program} {S : AV -> AV -> Prop} (hS : ∀ {B ρ ok w a b v}, S a b -> V B ρ ok w a v -> V B ρ ok w b v) {f : FuncId} {args : List AV} {r : AV} {news : List HE} (hargs : args.all canonV = true) (hres : resV r = true) (hpn : plainNews news = true) (hcs : CS P f args (fun _ => none) 0 (fun h n r0 => ∃ keep : List Nat, keep.Nodup /\ Out S keep r news h n r0)) : C P f args r news := by
 refine ⟨hcs.1, hres, hpn, fun F w vs hF hG hv => ?_⟩;have H0 : HRel w.heap.size w noPlace F (fun _ => none) 0 w := ⟨Below.refl _ _, ⟨Nat.le_refl _, hG⟩, hF, fun _ _ => rfl, (fun i e he => by cases he), (fun i j e e' b c s c' s' h1 => by cases h1)⟩;have hv' : VL w.heap.size noPlace F w args vs := ⟨hv.1, fun j c u hc hu => canon_up (List.all_eq_true.1 hargs c (List.mem_of_getElem? hc)) (hv.2 j c u hc hu) _⟩;refine (hcs.2 _ _ _ _ _ _ H0 hv').mono ?_;rintro e w' ⟨v, h', n', r0, ρ', ok', rfl, ⟨keep, hnd, ⟨r1, ho, hsub⟩, hk⟩, hn, H, hvr, x⟩;have hkl := mapM_length hk
 have blk : ∀ i e b c s, h' i = some e -> ρ' i = some (some (b, c, s)) -> w.heap.size <= b /\ ¬ ok' b := by
  intro i e b c s hi hb;rcases H.row i e hi with ⟨q, _⟩ | ⟨b', cap', cur, p1, p2, p3, _⟩
  ·rw [hb] at q; cases q
  ·rw [hb] at p1;simp only [Option.some.injEq, Prod.mk.injEq] at p1;obtain ⟨rfl, -, -⟩ := p1;exact ⟨p2, p3⟩
 refine ⟨v, _, _, rfl, ⟨H.below, H.base, fun b hb => shown_lt H hb, fun i hi => ?_, fun j e hj => ?_, ?_⟩, hS hsub (out_sound H ho hvr), fun b hb => ?_⟩
 ·have : keep[i]? = none := by simp; omega
  simp [this]
 ·obtain ⟨i, hi, hie⟩ := mapM_get hk j e hj;have hpl : ((keep[j]?).bind ρ') = ρ' i := by rw [hi]; rfl
  rcases H.row i e hie with ⟨q1, q2⟩ | ⟨b, cap, cur, q1, q2, q3, q4, q5, q6, q7, q8, q9, q10⟩
  ·exact Or.inl ⟨hpl.trans q1, q2⟩
  ·refine Or.inr ⟨b, cap, cur, hpl.trans q1, q2, ?_, q4, q5, q6, q7, q8, q9, q10.1, q10.2.1, fun k c u hc hu => ?_⟩
   ·rintro (g | ⟨i2, e2, c2, s2, g1, g2, g3⟩)
    ·exact q3 g
    ·have := H.inj i2 i e2 e b c2 s2 cap e.s g1 hie g3 q1;subst this;exact g2 (List.mem_of_getElem? hi)
   ·obtain ⟨row, hrow, hcm⟩ := List.mem_flatten.1 (List.mem_of_getElem? hc);have := List.all_eq_true.1 (List.all_eq_true.1 (List.all_eq_true.1 hpn e (List.mem_of_getElem? hj)) row hrow) c hcm;exact plain_up this (fun b hb => Or.inl hb) (q10.2.2 k c u hc hu)
 ·intro i j e e' b c s c' s' hi hj hbi hbj;obtain ⟨i1, hi1, hie⟩ := mapM_get hk i e hi;obtain ⟨j1, hj1, hje⟩ := mapM_get hk j e' hj;simp only [hi1, hj1, Option.bind_some] at hbi hbj;have := H.inj i1 j1 e e' b c s c' s' hie hje hbi hbj;subst this;exact (List.getElem?_inj (List.getElem?_eq_some_iff.1 hi1).1 hnd).1 (hi1.trans hj1.symm)
 ·rcases hb with hb | ⟨i, e, c, s, g1, g2, g3⟩
  ·exact x.new b hb
  ·exact Or.inr (blk i e b c s g1 g3).1
def LinesOut (q : List S.Rec × Nat × Int) (len : Int) (h : Heap) (n : Nat) (r0 : AV) : Prop :=
 ∃ v, r0 = .tup [v, Int' (len - q.2.1), Int' q.2.2] /\ OwnR [] n h v 51 7 (q.1.map (recC false)) /\ (q.1 = [] -> v = .nl)
theorem lines_out {h : Heap} {n : Nat} {v : AV} {acc : List S.Rec} {left : Nat} {len a e e' : Int} (ho : OwnR [] n h v 51 7 (acc.map (recC false))) (hn : acc = [] -> v = .nl) (h1 : a = len - left) (h2 : e = e') : LinesOut (acc, left, e') len h n (.tup [v, Int' a, Int' e]) := by
 subst h1 h2;exact ⟨v, rfl, ho, hn⟩
def LinesAt (m : Nat) (h : Heap) (t0 t7 : AV) (most : Int) (k n : Nat) (q : List S.Rec × Nat × Int) : Prop :=
 ∃ (acc : List S.Rec) (rest : List UInt8), t0 = Tx rest /\ OwnR [] m h t7 51 7 (acc.map (recC false)) /\ (acc = [] -> t7 = .nl) /\ k + rest.length <= n /\ acc.length + rest.length <= n /\ (acc ++ (S.lines rest (most - acc.length)).1, (S.lines rest (most - acc.length)).2) = q
theorem disk_lines_CS (s : List UInt8) (most : Int) (hsl : s.length <= 60000) : CS Tryz.prog 68 [Tx s, Int' most] (fun _ => none) 0 (LinesOut (S.lines s most) s.length) := by
 obtain ⟨q, hq⟩ : ∃ q, S.lines s most = q := ⟨_, rfl⟩;rw [hq];replace hq := hid hq;replace hsl := hid hsl;refine CS_inline (typesOk _) Tryz.func68 (fun _ _ => by kernel_rfl) rfl (by kernel_rfl) (Nat.le_of_ble_eq_true rfl) ?_;refine rN ?_;refine loop_ghost s.length (fun k h m t => LinesAt m h (t 0) (t 7) most k s.length q /\ ∃ d, m = d + 24) _ (by rfl) ⟨⟨[], s, rfl, .inl ⟨rfl, rfl⟩, fun _ => rfl, by simp, by simp, by simpa using hq.out⟩, ⟨_, rfl⟩⟩ ?_ ?_
 ·rintro k t h m hk hs ⟨⟨acc, rest, t0, hown, hnl, hkr, har, hl⟩, d, rfl⟩;have e1 := hs 1 rfl;have e8 := hs 8 rfl;clear hs;simp -dsimp -implicitDefEqProofs at e1 e8;replace hk := hid hk;by_cases hne : rest = []
  ·subst hne;rw [S.lines_nil] at hl;simp only [List.append_nil] at hl;subst hl;refine rS (aN e1 (aN e8 t0)) ?_;exact lines_out (hown.mono (no' := []) (fun i hi _ => by repeat (first | rfl | rw [upd_ne _ _ (by omega)])) (by omega) (fun _ h => .inl h)) hnl (by simp) rfl
  ·have cc := strings_Cut rest [10] (by have := hsl.out; omega);rw [S.cut_one] at cc;cases hc : S.cut1 10 rest with
   | none =>
    rw [hc] at cc;rw [S.lines_none _ hne hc] at hl;simp only [List.append_nil] at hl cc;subst hl;have hw : IntKind.i64.wrap ((s.length : Int) - rest.length) = (s.length : Int) - rest.length := wrap_ok (by have := hsl.out; omega);replace cc := hid cc;refine rD (aN e1 (aN e8 (aN t0 hne))) cc.out ?_;refine rS (aN e1 (aN e8 (aN t0 hw))) ?_;exact lines_out (hown.mono (no' := []) (fun i hi _ => by repeat (first | rfl | rw [upd_ne _ _ (by omega)])) (by omega) (fun _ h => .inl h)) hnl rfl rfl
   | some p =>
    obtain ⟨x, y⟩ := p;rw [hc] at cc;rw [S.lines_some _ hc] at hl;have hlen := S.cut1_len hc;simp only at cc;obtain ⟨⟨r, e⟩, hp⟩ : ∃ p, S.recParse x = p := ⟨_, rfl⟩;have cp := rparse_eq hp;rw [hp] at hl;simp only at hl cp;have hw : IntKind.i64.wrap ((s.length : Int) - rest.length) = (s.length : Int) - rest.length := wrap_ok (by have := hsl.out; omega);replace cc := hid cc;replace cp := hid cp;clear hp hc;by_cases he : e = 0
    ·subst he;rw [if_neg (by simp)] at hl;by_cases hm : (acc.length : Int) = most
     ·rw [if_pos (by omega)] at hl;simp only [List.append_nil] at hl;subst hl;have hmono := hown;rcases hown with ⟨t7, hn⟩ | ⟨i, t7, hno, his, hi⟩
      ·have hac : acc = [] := by simpa using hn
       subst hac;clear hn;simp only [List.length_nil, Int.natCast_zero] at hm;subst hm;refine rD (aN e1 (aN e8 (aN t0 (aN hne t7)))) cc.out ?_;refine rD (aN e1 (aN e8 (aN t0 t7))) cp.out ?_;refine rS (aN e1 (aN e8 (aN t0 (aN t7 hw)))) ?_;exact lines_out (acc := []) (.inl ⟨rfl, rfl⟩) (fun _ => rfl) rfl rfl
      ·subst hm;refine rD (aN e1 (aN e8 (aN t0 (aN hne t7)))) cc.out ?_;refine rD (aN e1 (aN e8 (aN t0 t7))) cp.out ?_;refine rS (aN e1 (aN e8 (aN t0 (aN t7 hw)))) ?_;rw [t7, List.length_map] at hmono; rw [List.length_map] at t7
       exact lines_out (hmono.mono (no' := []) (fun i hi _ => by repeat (first | rfl | rw [upd_ne _ _ (by omega)])) (by omega) (fun _ h => .inl h)) (fun g => by rw [<- t7]; exact hnl g) (by simp) rfl
     ·rw [if_neg (by omega)] at hl;have hm' : decide ((acc.length : Int) = most) = false := by simp [hm]
      have hl2 := hid hl;have hlen2 := hid hlen;have har2 := hid har;have hkr2 := hid hkr;clear hl hlen har hkr hw;rcases hown with ⟨t7, hn⟩ | ⟨i, t7, hno, his, hi⟩
      ·have hac : acc = [] := by simpa using hn
       subst hac;clear hn;have hm0 : decide (0 = most) = false := by simpa using hm
       clear hm' hm;refine rD (aN e1 (aN e8 (aN t0 (aN hne t7)))) cc.out ?_;refine rD (aN e1 (aN e8 (aN t0 t7))) cp.out ?_;refine rS (aN e1 (aN e8 (aN t0 (aN t7 hm0)))) ?_;exact ⟨[r], y, rfl, .inr ⟨_, rfl, by simp, by omega, by simp -dsimp -implicitDefEqProofs⟩, fun g => by simp at g, by have := hlen2.out; have := hkr2.out; omega, by have := hlen2.out; have := har2.out; simp; omega, by simpa using hl2.out⟩
      ·have hz : decide (acc.length <= 100000000) = true := by have := har2.out; have := hsl.out; simp; omega
       refine rD (aN e1 (aN e8 (aN t0 (aN hne t7)))) cc.out ?_;refine rD (aN e1 (aN e8 (aN t0 t7))) cp.out ?_;refine rS (aN e1 (aN e8 (aN t0 (aN t7 (aN hi (aN hm' (aN hz (apA his)))))))) ?_;exact ⟨acc ++ [r], y, rfl, .inr ⟨d + 24 + 8 + 36 + 8 + 32 + 8 + 16 + 12, by simp, by simp, by omega, by simp -dsimp -implicitDefEqProofs⟩, fun g => by simp at g, by have := hlen2.out; have := hkr2.out; omega, by have := hlen2.out; have := har2.out; simp; omega, by have := hl2.out; simpa [Int.sub_sub] using this⟩
    ·rw [if_pos he] at hl;simp only [List.append_nil] at hl;subst hl;have he' : decide (e = 0) = false := by simp [he]
     refine rD (aN e1 (aN e8 (aN t0 hne))) cc.out ?_;refine rD (aN e1 (aN e8 t0)) cp.out ?_;refine rS (aN e1 (aN e8 (aN t0 (aN hw he')))) ?_;exact lines_out (hown.mono (no' := []) (fun i hi _ => by repeat (first | rfl | rw [upd_ne _ _ (by omega)])) (by omega) (fun _ h => .inl h)) hnl rfl rfl
 ·rintro t h m hs ⟨⟨acc, rest, t0, hown, hnl, hkr, har, hl⟩, d, rfl⟩;have e1 := hs 1 rfl;have e8 := hs 8 rfl;clear hs;simp -dsimp -implicitDefEqProofs at e1 e8;have hne : rest = [] := List.eq_nil_of_length_eq_zero (by omega);subst hne;rw [S.lines_nil] at hl;simp only [List.append_nil] at hl;subst hl;refine rS (aN e1 (aN e8 t0)) ?_;exact lines_out (hown.mono (no' := []) (fun i hi _ => by repeat (first | rfl | rw [upd_ne _ _ (by omega)])) (by omega) (fun _ h => .inl h)) hnl (by simp) rfl
theorem ends_lii {h : Heap} {n : Nat} {v : AV} {xs : List S.Rec} {a b e e' : Int} (ho : ∃ v', outLeaf h [] v = some v' /\ SubF v' (.lst false 7 (xs.map (recC false)))) (h1 : a = b) (h2 : e = e') :
  Ends [] (.tup [.lst false 7 (xs.map (recC false)), Int' b, Int' e']) [] h n (.tup [v, Int' a, Int' e]) := by
 subst h1 h2;obtain ⟨z, hz, hs⟩ := ho
 have e2 : outAgg h [] v = some z := by
  unfold outAgg;split
  ·simp [outLeaf] at hz
  ·exact hz
 refine ⟨⟨.tup [z, Int' a, Int' e], ?_, .tup (.cons (.leaf hs) (.cons (.refl _) (.cons (.refl _) (.nil _))))⟩, rfl⟩;show (List.mapM (outAgg h []) [v, Int' a, Int' e]).map AV.tup = _;rw [List.mapM_cons, e2];rfl
theorem CS.mono' {P : Program} {f : FuncId} {args : List AV} {h : Heap} {n : Nat} {Q Q' : Heap -> Nat -> AV -> Prop} (hc : CS P f args h n Q) (hq : ∀ h n r, Q h n r -> Q' h n r) : CS P f args h n Q' :=
 ⟨hc.1, fun B W0 ρ ok w vs H hv => (hc.2 B W0 ρ ok w vs H hv).mono fun e w' ⟨v, h', n', r, ρ', ok', h1, h2, h3⟩ => ⟨v, h', n', r, ρ', ok', h1, hq _ _ _ h2, h3⟩⟩
theorem disk_lines (s : List UInt8) (most : Int) (hs : s.length <= 60000) : C Tryz.prog 68 [Tx s, Int' most] (.tup [.lst false 7 ((S.lines s most).1.map (recC false)), Int' ((s.length : Int) - (S.lines s most).2.1), Int' (S.lines s most).2.2]) [] := by
 refine C_of (S := Sub) (fun h hv => Sub.v h hv) [] (by decide) rfl rfl rfl ((disk_lines_CS s most hs).mono' ?_);rintro h n r ⟨v, rfl, ho, -⟩;exact ends_lii (n := n) (ho.out recs_plain recs_unfr) rfl rfl
theorem disk_lines_own (s : List UInt8) (most : Int) (hs : s.length <= 60000) : C Tryz.prog 68 [Tx s, Int' most] (.tup [.own 0 0 (S.lines s most).1.length, Int' ((s.length : Int) - (S.lines s most).2.1), Int' (S.lines s most).2.2]) [⟨51, 7, (S.lines s most).1.map (recC false)⟩] \/
  ((S.lines s most).1 = [] /\ C Tryz.prog 68 [Tx s, Int' most] (.tup [.nl, Int' ((s.length : Int) - (S.lines s most).2.1), Int' (S.lines s most).2.2]) []) := by
 have h0 := disk_lines_CS s most hs;generalize S.lines s most = q at *;obtain ⟨l, left, e⟩ := q;cases l with
 | nil =>
  refine .inr ⟨rfl, C_of (S := Sub) (fun h hv => Sub.v h hv) [] (by decide) rfl rfl rfl (h0.mono' ?_)⟩;rintro h n r ⟨v, rfl, ho, hn⟩;rw [hn rfl];exact ⟨⟨_, rfl, .refl _⟩, rfl⟩
 | cons x l =>
  refine .inl (C_ofE (S := Sub) (fun h hv => Sub.v h hv) rfl rfl (by simp [plainNews, plainCell]) (h0.mono' ?_));rintro h n r ⟨v, rfl, ho, -⟩;rcases ho with ⟨-, ho⟩ | ⟨i, rfl, -, -, hi⟩
  ·cases ho
  ·refine ⟨[i], by simp, ⟨.tup [.own 0 0 (x :: l).length, Int' ((s.length : Int) - left), Int' e], ?_, .refl _⟩, ?_⟩
   ·show (List.mapM (outAgg h [i]) [_, _, _]).map AV.tup = _
    have : outAgg h [i] (.own i 0 ((x :: l).map (recC false)).length) = some (.own 0 0 (x :: l).length) := by
     show (match [i].idxOf? i with | some j => _ | none => _) = _;rw [show [i].idxOf? i = some 0 by simp [List.idxOf?]];simp
    rw [List.mapM_cons, this];rfl
   ·simp [hi]
abbrev diskC (fr : Bool) (d : S.Disk) : List AV := [.lst fr 1 (B8 d.safe), .lst fr 1 (B8 d.wait)]
theorem OutL.bytes {h : Heap} {i n : Nat} {e : HE} {fr : Bool} {ks : List UInt8} {cs ts : List AV} (hi : h i = some e) (he : e.s = 1 /\ e.rows = B8 ks) (hn : n = ks.length) (g : OutL h cs ts) : OutL h (.own i 0 n :: cs) (.lst fr 1 (B8 ks) :: ts) :=
 .cons (own_outB (ty := e.ty) (by rw [hi, <- he.1, <- he.2]) hn) (.lst (fun _ => rfl) (SubR.refl _)) g
@[simp high] theorem newNews_B8 (ty : TypeId) (s : Nat) (xs : List UInt8) : newNews [⟨ty, s, B8 xs⟩] = true := by
 simp only [newNews, List.all_cons, List.all_nil, Bool.and_true];simp [B8, newLeaf]
theorem disk_Check (d : S.Disk) : C Tryz.prog 21 [.agg (diskC false d)] (Int' (S.checkDisk d)) [] := by
 refine C_real (fun _ _ => by kernel_rfl) rfl rfl fun hr => ?_
 have hx := ((hr.get (j := 0) rfl).field (j := 0) rfl).len;have hy := ((hr.get (j := 0) rfl).field (j := 1) rfl).len;clear hr;rw [B8_length] at hx hy;unfold maxLen at hx hy;obtain ⟨a, b⟩ := d;simp only at hx hy;unfold S.checkDisk;simp only;by_cases h1 : 60000 < a.length
 ·rw [if_pos (.inl h1)];have h1' : decide ((60000 : Int) < (a.length : Int)) = true := by simp; omega
  refine CI Tryz.func21 ?_;refine rS h1' ?_;exact ends_int rfl
 ·have h1' : decide ((60000 : Int) < (a.length : Int)) = false := by simp; omega
  have hw : IntKind.i64.wrap ((60000 : Int) - a.length) = (60000 : Int) - a.length := wrap_ok (by omega);by_cases h2 : 60000 < b.length + a.length
  ·rw [if_pos (.inr h2)];have h2' : decide ((60000 : Int) - a.length < (b.length : Int)) = true := by simp; omega
   refine CI Tryz.func21 ?_;refine rS (aN h1' (aN hw h2')) ?_;exact ends_int rfl
  ·rw [if_neg (by omega)];have h2' : decide ((60000 : Int) - a.length < (b.length : Int)) = false := by simp; omega
   have cl := hid (disk_lines a 80 (by omega));generalize S.lines a 80 = q at *;clear hx hy h1 h2;refine CI Tryz.func21 ?_;refine rD (aN h1' (aN hw h2')) cl.out ?_;refine rN ?_;exact ends_int rfl
theorem checkDisk_ok {d : S.Disk} (h : S.checkDisk d = 0) : d.safe.length <= 60000 /\ d.wait.length + d.safe.length <= 60000 /\ (S.lines d.safe 80).2.2 = 0 := by
 unfold S.checkDisk at h;split at h
 ·cases h
 ·exact ⟨by omega, by omega, h⟩
theorem disk_Same (a b : S.Disk) : C Tryz.prog 22 [.agg (diskC false a), .agg (diskC false b)] (Bool' (decide (a = b))) [] := by
 obtain ⟨a, c⟩ := a;obtain ⟨b, d⟩ := b;have e : decide ((⟨a, c⟩ : S.Disk) = ⟨b, d⟩) = (decide (a = b) && decide (c = d)) := by simp [Bool.decide_and]
 rw [e];have h1 := hid (equal_bytes a b);have h2 := hid (equal_bytes c d);generalize decide (a = b) = x at *;generalize decide (c = d) = y at *;cases x
 ·refine CI Tryz.func22 ?_;refine rC h1.out ?_;refine rN ?_;exact ends_bool rfl
 ·refine CI Tryz.func22 ?_;refine rC h1.out ?_;refine rC h2.out ?_;refine rN ?_;exact ends_bool rfl
theorem disk_Put (d : S.Disk) (r : S.Rec) : C Tryz.prog 15 [.agg (diskC false d), .agg (recC false r)] (.tup [.agg (diskC true (S.putDisk d r).1), Int' (S.putDisk d r).2]) [] := by
 have hc := hid (disk_Check d);unfold S.putDisk;by_cases h : S.checkDisk d = 0
 rotate_left
 ·rw [if_pos h];generalize S.checkDisk d = e at *;have he : decide (e = 0) = false := by simp [h]
  refine CG [(9, [])] Tryz.func15 ?_;refine rC hc.out ?_;refine rS he ?_;exact ends_ag outL rfl
 rw [if_neg (by simp [h])];obtain ⟨k1, k2, -⟩ := checkDisk_ok h;rw [h] at hc;have hp := note_Print r;unfold S.recPrint at hp;by_cases hr : S.checkRec r = 0
 rotate_left
 ·rw [if_pos hr];rw [if_pos hr] at hp;generalize S.checkRec r = e at *;have he : decide (e = 0) = false := by simp [hr]
  replace hp := hid hp;refine CG [(9, [])] Tryz.func15 ?_;refine rC hc.out ?_;refine rC hp.out ?_;refine rS he ?_;exact ends_ag outL rfl
 rw [if_neg (by simp [hr])] at hp;rw [if_neg (by simp [hr])];have hlen := S.recText_len hr;generalize S.recText r = t at *;replace hp := hid hp;obtain ⟨a, b⟩ := d;simp only at k1 k2 hc ⊢;have w1 : IntKind.i64.wrap ((t.length : Int) + 1) = (t.length : Int) + 1 := wrap_ok (by omega);have w2 : IntKind.i64.wrap ((60000 : Int) - a.length) = (60000 : Int) - a.length := wrap_ok (by omega);have w3 : IntKind.i64.wrap ((60000 : Int) - a.length - b.length) = (60000 : Int) - a.length - b.length := wrap_ok (by omega);by_cases h2 : 60000 < t.length + 1 + a.length + b.length
 ·rw [if_pos h2];have h2' : decide ((60000 : Int) - a.length - b.length < (t.length : Int) + 1) = true := by simp; omega
  refine CG [(9, [])] Tryz.func15 ?_;refine rC hc.out ?_;refine rC hp.out ?_;refine rS (aN w1 (aN w2 (aN w3 h2'))) ?_;exact ends_ag outL rfl
 ·rw [if_neg h2];have h2' : decide ((60000 : Int) - a.length - b.length < (t.length : Int) + 1) = false := by simp; omega
  have c1 := hid (clone_bytes a (by omega));have c2 := hid (clone_bytes b (by omega));have f1 : decide (b.length <= 100000000) = true := by simp; omega
  have f2 : decide (100000000 < t.length) = false := by simp; omega
  have f3 : decide (b.length + t.length <= 100000000) = true := by simp; omega
  clear h h2 hr hlen k1 k2;refine CG [(9, [])] Tryz.func15 ?_;refine rC hc.out ?_;refine rC hp.out ?_;refine rD (aN w1 (aN w2 (aN w3 h2'))) c1.out ?_;refine rC c2.out ?_;refine rS (aN f1 (aN f2 f3)) ?_;exact ends_ag (OutL.bytes rfl ⟨rfl, rfl⟩ rfl (OutL.bytes rfl ⟨rfl, by rw [List.take_of_length_le (by simp)]; simp [B8]⟩ (by simp; omega) (OutL.nil _))) rfl
theorem check_cat (l : List UInt8) : C Tryz.prog 21 [.agg [.lst false 1 (B8 l), .nl]] (Int' (S.checkDisk ⟨l, []⟩)) [] :=
 (disk_Check ⟨l, []⟩).args (.cons (.agg (.cons (.refl _) (.cons .nl (.nil _)))) (.nil _))
theorem disk_Sync (d : S.Disk) : C Tryz.prog 16 [.agg (diskC false d)] (.tup [.agg (diskC true (S.syncDisk d).1), Int' (S.syncDisk d).2]) [] := by
 have hc := hid (disk_Check d);unfold S.syncDisk;by_cases h : S.checkDisk d = 0
 rotate_left
 ·rw [if_pos h];generalize S.checkDisk d = e at *;have he : decide (e = 0) = false := by simp [h]
  refine CI Tryz.func16 ?_;refine rC hc.out ?_;refine rS he ?_;exact ends_ag outL rfl
 rw [if_neg (by simp [h])];obtain ⟨k1, k2, -⟩ := checkDisk_ok h;rw [h] at hc;obtain ⟨a, b⟩ := d;simp only at k1 k2 hc ⊢;have c1 := hid (concat_bytes a b (by omega) (by omega));have c2 := check_cat (a ++ b);generalize a ++ b = l at *;clear k1 k2 h;by_cases h : S.checkDisk ⟨l, []⟩ = 0
 ·rw [if_neg (by simp [h])];rw [h] at c2;replace c2 := hid c2;clear h;refine CI Tryz.func16 ?_;refine rC hc.out ?_;refine rC c1.out ?_;refine rC c2.out ?_;refine rN ?_;exact ends_ag outL rfl
 ·rw [if_pos h];generalize S.checkDisk ⟨l, []⟩ = e at *;have he : decide (e = 0) = false := by simp [h]
  replace c2 := hid c2;refine CI Tryz.func16 ?_;refine rC hc.out ?_;refine rC c1.out ?_;refine rC c2.out ?_;refine rS he ?_;exact ends_ag outL rfl
theorem OutL.recs {h : Heap} {i n : Nat} {e : HE} {xs : List S.Rec} {cs ts : List AV} (hi : h i = some e) (he : e.s = 7 /\ e.rows = xs.map (recC false)) (hn : n = xs.length) (g : OutL h cs ts) : OutL h (.own i 0 n :: cs) (.lst false 7 (xs.map (recC false)) :: ts) := by
 have hi' : h i = some ⟨e.ty, 7, xs.map (recC false)⟩ := by rw [hi, <- he.1, <- he.2]
 have ho := own_plain hi' (by simpa using hn) (fun r hr => by obtain ⟨z, _, rfl⟩ := List.mem_map.1 hr; rfl);have e1 : (xs.map (recC false)).map (fun r => r.map unfr) = xs.map (recC false) := by rw [List.map_map]; rfl
 rw [e1] at ho;exact .cons ho (.lst (fun h => by cases h) (SubR.refl _)) g
abbrev recovR (q : S.Disk × List S.Rec × Int) : AV := .tup [.agg (diskC false q.1), .lst false 7 (q.2.1.map (recC false)), Int' q.2.2]
theorem disk_Recover (d : S.Disk) : C Tryz.prog 18 [.agg (diskC false d)] (recovR (S.recoverDisk d)) [] := by
 have hc := hid (disk_Check d);unfold S.recoverDisk;by_cases h : S.checkDisk d = 0
 rotate_left
 ·rw [if_pos h];generalize S.checkDisk d = e at *;have he : decide (e = 0) = false := by simp [h]
  refine CI Tryz.func18 ?_;refine rC hc.out ?_;refine rS he ?_;exact ends_ali outL outL rfl
 rw [if_neg (by simp [h])];obtain ⟨k1, k2, -⟩ := checkDisk_ok h;rw [h] at hc;obtain ⟨a, b⟩ := d;unfold S.kept;simp only at k1 k2 hc ⊢;have l1 := disk_lines_own a 80 (by omega);have r1 := S.lines_room a (m := 80) (by omega);generalize S.lines a 80 = p at *;obtain ⟨xs, left1, e1⟩ := p;simp only at l1 r1 ⊢;have l2 := disk_lines b (80 - (xs.length : Int)) (by omega);have r2 := S.lines_room b (m := 80 - (xs.length : Int)) (by omega);have r3 := (S.lines_left b (80 - (xs.length : Int))).1;generalize S.lines b (80 - (xs.length : Int)) = q at *;obtain ⟨ys, left2, e2⟩ := q;simp only at l2 r2 r3 ⊢;have em : (b.length : Int) - left2 = ((b.length - left2 : Nat) : Int) := by omega
 rw [em] at l2;have hm : b.length - left2 <= b.length := by omega
 generalize b.length - left2 = m at *;have hw : IntKind.i64.wrap ((80 : Int) - xs.length) = (80 : Int) - xs.length := wrap_ok (by omega);have c1 := hid (concat_bytes a (b.take m) (by omega) (by simp; omega));have f1 : decide (100000000 < ys.length) = false := by simp; omega
 have f2 : decide (xs.length <= 100000000) = true := by simp; omega
 replace l2 := hid l2;clear r1 r2 r3 em h k1 k2;rcases l1 with l1 | ⟨hx, l1⟩
 ·replace l1 := hid l1;refine CI Tryz.func18 ?_;refine rC hc.out ?_;refine rC l1.out ?_;refine rD hw l2.out ?_;refine rD hm c1.out ?_;refine rS (aN f1 f2) ?_;exact ends_ali (OutL.lst (fun h => by cases h) (OutL.nl (OutL.nil _))) (OutL.recs rfl ⟨rfl, by simp⟩ (by simp) (OutL.nil _)) rfl
 ·subst hx;replace l1 := hid l1;simp only [List.length_nil] at hw;refine CI Tryz.func18 ?_;refine rC hc.out ?_;refine rC l1.out ?_;refine rD hw l2.out ?_;refine rD hm c1.out ?_;refine rS (aN f1 f2) ?_;exact ends_ali (OutL.lst (fun h => by cases h) (OutL.nl (OutL.nil _))) (OutL.recs rfl ⟨rfl, rfl⟩ (by simp) (OutL.nil _)) rfl
theorem info_rec : (Tryz.prog.info? 51).map (fun i => (i.zero, i.size, i.bytes)) = some (some (.agg #[.int .i64 0, .int .i64 0, .int .i64 0, .int .i64 0, .int .i64 0, .int .i64 0, .slice none 0 0]), 7, 72) := by kernel_rfl
theorem grow_rec (o : Option Addr) (n : Nat) (w : World) (hn : n <= 1000000) :
  Calls Tryz.prog 110 #[.slice o 0 0, .int .i64 n] w fun e w' => ∃ a c, e = .returned (.slice a 0 c) /\ (c = 0 \/ w'.ownsRow w.heap.size 51 7 (.slice a 0 c) 0 []) /\ Below w.heap.size w w' := by
 obtain ⟨i0, hi0, hz0, hz1, hz2⟩ := info_parts info_rec;by_cases c0 : n = 0
 ·subst c0;go_enter Tryz.func110, Tryz.ntmps110
  go_wp2_with fail
  go_ret
  exact ⟨o, 0, rfl, Or.inl rfl, Below.refl _ _⟩
 ·have c1 : 0 < n := by omega
  have hrz := fun ty => Lib.run_append_grow_zeros (P := Tryz.prog) w 56 3 ty 51 i0 (.agg #[.int .i64 0, .int .i64 0, .int .i64 0, .int .i64 0, .int .i64 0, .int .i64 0, .slice none 0 0]) .i64 .i64 Tryz.underlying56 Tryz.underlying3 hi0 hz0 o 0 0 [] (run_first0 w.drew i0.size o) n c1 (by omega) (by omega) (by omega)
   (by rw [hz2]; omega) (growslice_fits (by omega) (by rw [hz2]; omega))
  simp only [Nat.zero_add] at hrz;have hG1 := grownCap_ge w n 0 51;have hG2 := grownCap_le_maxLen w n 0 51 (by unfold maxLen; omega);generalize grownCap w n 0 51 = G at *;generalize hcs : (#[] ++ Builtin.zeroCells (Value.cells (.agg #[.int .i64 0, .int .i64 0, .int .i64 0, .int .i64 0, .int .i64 0, .int .i64 0, .slice none 0 0])) n ++ Builtin.zeroCells (Value.cells (.agg #[.int .i64 0, .int .i64 0, .int .i64 0, .int .i64 0, .int .i64 0, .int .i64 0, .slice none 0 0])) (G - n)) = cs at *;have hsz : cs.size = G * 7 := by rw [<- hcs]; simp [zeroCells_size, Value.cells]; omega
  have hsz := hid hsz;clear hcs c0 hi0 hz0 hz1 hz2;have hG2 := hid hG2;go_enter Tryz.func110, Tryz.ntmps110
  go_wp2_with (at_builtin; refine Lib.wpList_append_run _ rfl _ _ _ _ rfl _ _ rfl rfl _ _ (hrz _) ?_)
  all_goals
   go_ret
   refine ⟨_, _, rfl, Or.inr (World.ownsRow_made w.drew cs G (Nat.le_refl _) hG2.out hsz.out), ?_⟩;exact ((Below.refl _ w).drew).alloc (Nat.le_refl _) _
theorem grow_recs (n : Nat) (hn : n <= 1000000) : C Tryz.prog 110 [.nl, .at (.int .i64 n)] (.own 0 0 0) [⟨51, 7, []⟩] := by
 refine C_own_empty (by omega) (fun _ _ => by kernel_rfl) fun F w vs h => ?_
 obtain ⟨hl, hv⟩ := h
 match vs, hl with
 | [x, y], _ =>
  have h0 := hv 0 _ _ rfl rfl;have h1 := hv 1 _ _ rfl rfl;cases h0; cases h1
  exact grow_rec _ n w hn
def RowsOf (v : AV) (xs : List S.Rec) : Prop := v = .lst false 7 (xs.map (recC false)) \/ (v = .nl /\ xs = [])
theorem RowsOf.sub {v : AV} {xs : List S.Rec} (h : RowsOf v xs) : SubC v (.lst false 7 (xs.map (recC false))) := by
 rcases h with rfl | ⟨rfl, rfl⟩
 ·exact .refl _
 ·exact .nl
theorem put_eq {d x : S.Disk} {r : S.Rec} {e : Int} (h : S.putDisk d r = (x, e)) : C Tryz.prog 15 [.agg (diskC false d), .agg (recC false r)] (.tup [.agg (diskC true x), Int' e]) [] := by
 have := disk_Put d r;rw [h] at this;exact this
theorem sync_eq {d x : S.Disk} {e : Int} (h : S.syncDisk d = (x, e)) : C Tryz.prog 16 [.agg (diskC false d)] (.tup [.agg (diskC true x), Int' e]) [] := by
 have := disk_Sync d;rw [h] at this;exact this
theorem recover_eq {d x : S.Disk} {l : List S.Rec} {e : Int} (h : S.recoverDisk d = (x, l, e)) : C Tryz.prog 18 [.agg (diskC false d)] (recovR (x, l, e)) [] := by
 have := disk_Recover d;rw [h] at this;exact this
end Go.Proofs.YtadmfokicjjglaaGreatDoor.E
