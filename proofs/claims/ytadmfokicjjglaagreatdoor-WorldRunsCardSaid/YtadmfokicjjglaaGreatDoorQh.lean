
/- Qh: ref.Happened, the mail. -/
import Derived.Test.YtadmfokicjjglaaGreatDoorR2
import Derived.Test.YtadmfokicjjglaaGreatDoorP3
import Derived.Test.YtadmfokicjjglaaGreatDoorX3
namespace Go.Proofs.YtadmfokicjjglaaGreatDoor.E
open Go.RowKit Go.Proofs
set_option linter.unusedVariables false
set_option linter.unusedSimpArgs false
set_option maxRecDepth 100000
set_option maxHeartbeats 4000000
theorem ref_Happened_bad (e : Int) : C Tryz.prog 58 [Int' e] (.tup [.agg (worldC false S.World.zero), Int' e]) [] := by
 refine CI Tryz.func58 ?_;refine rN ?_;exact ends_ag outL rfl
theorem OutL.hands {h : Heap} {i n : Nat} {e : HE} {xs : List S.Hand} {cs ts : List AV} (hi : h i = some e) (he : e.s = 8 /\ e.rows = xs.map (handC false)) (hn : n = xs.length) (g : OutL h cs ts) : OutL h (.own i 0 n :: cs) (.lst false 8 (xs.map (handC false)) :: ts) := by
 have hi' : h i = some ⟨e.ty, 8, xs.map (handC false)⟩ := by rw [hi, <- he.1, <- he.2]
 have ho := own_plain hi' (by simpa using hn) (fun r hr => by obtain ⟨z, _, rfl⟩ := List.mem_map.1 hr; rfl);have e1 : (xs.map (handC false)).map (fun r => r.map unfr) = xs.map (handC false) := by rw [List.map_map]; rfl
 rw [e1] at ho;exact .cons ho (.lst (fun h => by cases h) (SubR.refl _)) g
theorem OutL.mails {h : Heap} {i n : Nat} {e : HE} {xs : List S.Mail} {cs ts : List AV} (hi : h i = some e) (he : e.s = 11 /\ e.rows = xs.map (mailC false)) (hn : n = xs.length) (g : OutL h cs ts) : OutL h (.own i 0 n :: cs) (.lst false 11 (xs.map (mailC false)) :: ts) := by
 have hi' : h i = some ⟨e.ty, 11, xs.map (mailC false)⟩ := by rw [hi, <- he.1, <- he.2]
 have ho := own_plain hi' (by simpa using hn) (fun r hr => by obtain ⟨z, _, rfl⟩ := List.mem_map.1 hr; rfl);have e1 : (xs.map (mailC false)).map (fun r => r.map unfr) = xs.map (mailC false) := by rw [List.map_map]; rfl
 rw [e1] at ho;exact .cons ho (.lst (fun h => by cases h) (SubR.refl _)) g
abbrev happR (q : S.World × Int) : AV := .tup [.agg (worldC false (if q.2 = 0 then q.1 else S.World.zero)), Int' q.2]
theorem happ_bad {h : Heap} {n : Nat} {v : S.World} {e : Int} (he : e ≠ 0) : Ends [] (happR (v, e)) [] h n (.tup [.agg (worldC false S.World.zero), Int' e]) := by
 unfold happR;simp only [if_neg he];exact ends_ag (OutL.lst (fun h => h) (OutL.lst (fun h => h) (OutL.at (OutL.at (OutL.lst (fun h => h) (OutL.lst (fun h => h) (OutL.lst (fun h => h) (OutL.at (OutL.lst (fun h => h) (OutL.lst (fun h => h) (OutL.nil _))))))))))) rfl
theorem OutL.rowsS {h : Heap} {i n s : Nat} {ty : TypeId} {rows target : List (List AV)} {cs ts : List AV} (hi : h i = some ⟨ty, s, rows⟩) (hp : ∀ r, r ∈ rows -> r.all plainCell = true) (hs : SubR (rows.map fun r => r.map unfr) target) (hn : n = rows.length) (g : OutL h cs ts) : OutL h (.own i 0 n :: cs) (.lst false s target :: ts) :=
 .cons (own_plain hi hn hp) (.lst (fun h => by cases h) hs) g
def RowsAs {α : Type} (enc : α -> List AV) (rows : List (List AV)) (xs : List α) : Prop := (∀ r, r ∈ rows -> r.all plainCell = true) /\ SubR (rows.map fun r => r.map unfr) (xs.map enc)
theorem RowsAs.hands (xs : List S.Hand) : RowsAs (handC false) (xs.map (handC false)) xs :=
 ⟨fun r hr => by obtain ⟨z, _, rfl⟩ := List.mem_map.1 hr; rfl, by rw [List.map_map]; exact SubR.refl _⟩
theorem RowsAs.mails (xs : List S.Mail) : RowsAs (mailC false) (xs.map (mailC false)) xs :=
 ⟨fun r hr => by obtain ⟨z, _, rfl⟩ := List.mem_map.1 hr; rfl, by rw [List.map_map]; exact SubR.refl _⟩
theorem SubR.app {a b c d : List (List AV)} (h : SubR a b) (g : SubR c d) : SubR (a ++ c) (b ++ d) := by
 refine ⟨by simp [h.1, g.1], fun k r r' h1 h2 => ?_⟩;by_cases hk : k < a.length
 ·rw [List.getElem?_append_left hk] at h1;rw [List.getElem?_append_left (by have := h.1; omega)] at h2;exact h.2 k r r' h1 h2
 ·rw [List.getElem?_append_right (by omega)] at h1;rw [List.getElem?_append_right (by have := h.1; omega)] at h2;rw [h.1] at h1;exact g.2 _ r r' h1 h2
theorem RowsAs.snoc {α : Type} {enc : α -> List AV} {rows : List (List AV)} {xs : List α} {row : List AV} {x : α} (h : RowsAs enc rows xs) (hp : row.all plainCell = true) (hs : SubL SubC (row.map unfr) (enc x)) : RowsAs enc (rows ++ [row]) (xs ++ [x]) := by
 refine ⟨fun r hr => ?_, ?_⟩
 ·rcases List.mem_append.1 hr with g | g
  ·exact h.1 r g
  ·rw [List.mem_singleton.1 g]; exact hp
 ·rw [List.map_append, List.map_append];exact h.2.app (.cons hs .nil)
theorem RowsAs.set {α : Type} {enc : α -> List AV} {rows : List (List AV)} {xs : List α} {row : List AV} {x : α} {k : Nat} (h : RowsAs enc rows xs) (hp : row.all plainCell = true) (hs : SubL SubC (row.map unfr) (enc x)) : RowsAs enc (rows.set k row) (xs.set k x) := by
 refine ⟨fun r hr => ?_, ?_⟩
 ·rcases List.mem_or_eq_of_mem_set hr with g | g
  ·exact h.1 r g
  ·rw [g]; exact hp
 ·rw [List.map_set, List.map_set];refine ⟨by simpa using h.2.1, fun j r r' h1 h2 => ?_⟩;rw [List.getElem?_set] at h1 h2;by_cases g : k = j
  ·rw [if_pos g] at h1 h2;split at h1 <;> split at h2 <;> cases h1 <;> cases h2
   exact hs
  ·rw [if_neg g] at h1 h2;exact h.2.2 j r r' h1 h2
theorem happ_ok {h : Heap} {n : Nat} {v : S.World} {i j m k : Nat} {a b c s r : Bool} {t1 t2 : TypeId} {rows1 rows2 : List (List AV)} (hi : h i = some ⟨t1, 8, rows1⟩) (hj : h j = some ⟨t2, 11, rows2⟩) (g1 : RowsAs (handC false) rows1 v.hand) (g2 : RowsAs (mailC false) rows2 v.mail) (hm : m = rows1.length) (hk : k = rows2.length) :
  Ends [] (happR (v, 0)) [] h n (.tup [.agg [.lst a 2 (v.h.d.zs.map (zoneC false)), .lst b 1 (I v.h.d.b.k), Int' v.h.d.b.h, Int' v.h.d.b.t, .lst c 4 (v.h.last.map (lastC false)), .lst s 1 (B8 v.d.safe), .lst r 1 (B8 v.d.wait), Bool' v.up, .own i 0 m, .own j 0 k], Int' 0]) :=
 ends_ag (OutL.lst (fun h => by cases h) (OutL.lst (fun h => by cases h) (OutL.at (OutL.at (OutL.lst (fun h => by cases h) (OutL.lst (fun h => by cases h) (OutL.lst (fun h => by cases h) (OutL.at (OutL.rowsS hi g1.1 g1.2 hm (OutL.rowsS hj g2.1 g2.2 hk (OutL.nil _))))))))))) rfl
theorem sub_new {w q : Int} {c : S.Cmd} : SubL SubC (([.at (.bool false), Int' w, Int' q, Int' c.kind, Int' c.z, Int' c.n, Int' c.pos, .lst false 1 (I c.d), Int' 0, Int' 0, .nl] : List AV).map unfr) (mailC false ⟨false, w, q, c, S.Answer.zero⟩) :=
 .cons (.refl _) (.cons (.refl _) (.cons (.refl _) (.cons (.refl _) (.cons (.refl _) (.cons (.refl _) (.cons (.refl _) (.cons (.refl _) (.cons (.refl _) (.cons (.refl _) (.cons .nl (.nil _)))))))))))
theorem sub_handW {Z : S.Hand} (h : Z.waits = true) : SubL SubC (([Int' Z.seq, Bool' true, Int' Z.c.kind, Int' Z.c.z, Int' Z.c.n, Int' Z.c.pos, .lst false 1 (I Z.c.d), .lst false 3 (Z.got.map (ansC false))] : List AV).map unfr) (handC false Z) := by
 show SubL SubC _ [Int' Z.seq, Bool' Z.waits, _, _, _, _, _, _];rw [h];show SubL SubC [Int' Z.seq, Bool' true, Int' Z.c.kind, Int' Z.c.z, Int' Z.c.n, Int' Z.c.pos, .lst false 1 (I Z.c.d), .lst false 3 (Z.got.map (ansC false))] _;exact ⟨rfl, fun j c c' h3 h4 => by rw [h3] at h4; cases h4; exact .refl _⟩
theorem grow_mail (o : Option Addr) (n : Nat) (w : World) (hn : n <= 1000000) :
  Calls Tryz.prog 97 #[.slice o 0 0, .int .i64 n] w fun e w' => ∃ a c, e = .returned (.slice a 0 c) /\ (c = 0 \/ w'.ownsRow w.heap.size 78 11 (.slice a 0 c) 0 []) /\ Below w.heap.size w w' := by
 obtain ⟨i0, hi0, hz0, hz1, hz2⟩ := info_parts info_mail;by_cases c0 : n = 0
 ·subst c0;go_enter Tryz.func97, Tryz.ntmps97
  go_wp2_with fail
  go_ret
  exact ⟨o, 0, rfl, Or.inl rfl, Below.refl _ _⟩
 ·have c1 : 0 < n := by omega
  have hrz := fun ty => Lib.run_append_grow_zeros (P := Tryz.prog) w 35 3 ty 78 i0 (.agg #[.bool false, .int .i64 0, .int .i64 0, .int .i64 0, .int .i64 0, .int .i64 0, .int .i64 0, .slice none 0 0, .int .i64 0, .int .i64 0, .slice none 0 0]) .i64 .i64 Tryz.underlying35 Tryz.underlying3 hi0 hz0 o 0 0 [] (run_first0 w.drew i0.size o) n c1 (by omega) (by omega) (by omega)
   (by rw [hz2]; omega) (growslice_fits (by omega) (by rw [hz2]; omega))
  simp only [Nat.zero_add] at hrz;have hG1 := grownCap_ge w n 0 78;have hG2 := grownCap_le_maxLen w n 0 78 (by unfold maxLen; omega);generalize grownCap w n 0 78 = G at *;generalize hcs : (#[] ++ Builtin.zeroCells (Value.cells (.agg #[.bool false, .int .i64 0, .int .i64 0, .int .i64 0, .int .i64 0, .int .i64 0, .int .i64 0, .slice none 0 0, .int .i64 0, .int .i64 0, .slice none 0 0])) n ++ Builtin.zeroCells (Value.cells (.agg #[.bool false, .int .i64 0, .int .i64 0, .int .i64 0, .int .i64 0, .int .i64 0, .int .i64 0, .slice none 0 0, .int .i64 0, .int .i64 0, .slice none 0 0])) (G - n)) = cs at *;have hsz : cs.size = G * 11 := by rw [<- hcs]; simp [zeroCells_size, Value.cells]; omega
  have hsz := hid hsz;clear hcs c0 hi0 hz0 hz1 hz2;have hG2 := hid hG2;go_enter Tryz.func97, Tryz.ntmps97
  go_wp2_with (at_builtin; refine Lib.wpList_append_run _ rfl _ _ _ _ rfl _ _ rfl rfl _ _ (hrz _) ?_)
  all_goals
   go_ret
   refine ⟨_, _, rfl, Or.inr (World.ownsRow_made w.drew cs G (Nat.le_refl _) hG2.out hsz.out), ?_⟩;exact ((Below.refl _ w).drew).alloc (Nat.le_refl _) _
theorem grow_mails (n : Nat) (hn : n <= 1000000) : C Tryz.prog 97 [.nl, .at (.int .i64 n)] (.own 0 0 0) [⟨78, 11, []⟩] := by
 refine C_own_empty (by omega) (fun _ _ => by kernel_rfl) fun F w vs h => ?_
 obtain ⟨hl, hv⟩ := h
 match vs, hl with
 | [x, y], _ =>
  have h0 := hv 0 _ _ rfl rfl;have h1 := hv 1 _ _ rfl rfl;cases h0; cases h1
  exact grow_mail _ n w hn
def CatOut (mail : List S.Mail) (k r n0 : Nat) (h0 h : Heap) (n : Nat) (res : AV) : Prop := ∃ i, n0 <= i /\ i < n /\ res = .own i 0 (k + r) /\ h i = some ⟨78, 11, (mail.eraseIdx k).map (mailC false)⟩ /\ ∀ z, z < n0 -> h z = h0 z
theorem concat_mail (mail : List S.Mail) (k r j b n0 : Nat) (h0 : Heap) (T : TypeId) (v : AV) (hl : mail.length = k + 1 + r) (hm : mail.length <= 1000) (hv : (v = .own b (k + 1) r /\ 0 < r) \/ (v = .lst true 11 [] /\ r = 0)) (hj : h0 j = some ⟨T, 1, [[.own b 0 k], [v]]⟩) (hb : h0 b = some ⟨78, 11, mail.map (mailC false)⟩) (lj : j < n0) (lb : b < n0) :
  CS Tryz.prog 60 [.own j 0 2] h0 n0 (CatOut mail k r n0 h0) := by
 have w1 : IntKind.i64.wrap (k : Int) = k := wrap_ok (by omega);have w2 : IntKind.i64.wrap ((k : Int) + r) = (k : Int) + r := wrap_ok (by omega);have d1 : decide ((k : Int) < 0) = false := by simp
 have d2 : decide ((k : Int) + r < 0) = false := by simp; omega
 have d3 : decide (100000000 < k) = false := by simp; omega
 have d4 : decide (100000000 < r) = false := by simp; omega
 have e1 : min r (mail.length - (k + 1)) = r := by omega
 have e2 : List.take r (List.drop (k + 1) (mail.map (mailC false))) = List.drop (k + 1) (mail.map (mailC false)) := List.take_of_length_le (by simp; omega);have d5 : k <= 100000000 := by omega
 have hkl : k <= mail.length := by omega
 have hkr : k + 1 + r <= mail.length := by omega
 have gm := grow_mails (k + r) (by omega);simp only [Int.natCast_add] at gm;replace gm := hid gm;refine CS_inline (typesOk _) Tryz.func60 (fun _ _ => by kernel_rfl) rfl (by kernel_rfl) (Nat.le_of_ble_eq_true rfl) ?_;rcases hv with ⟨rfl, hr⟩ | ⟨rfl, rfl⟩
 ·refine rS (aN hj (aN hb (aN (far lj) (far lb)))) ?_;refine loop_unroll 3 ?_;refine rD (aN hj (aN hb (aN w1 (aN w2 (aN d1 (aN d2 (aN (far lj) (far lb)))))))) gm.out ?_;refine rS (aN hj (aN hb (aN (far lj) (far lb)))) ?_;refine loop_unroll 3 ?_;refine rS (aN hj (aN hb (aN d3 (aN d4 (aN d5 (aN e1 (aN hkl (aN hkr (aN (far lj) (far lb)))))))))) ?_;refine ⟨_, ?_, ?_, rfl, (upd_same _ _ _).trans ?_, fun z hz => by repeat (first | rfl | rw [upd_ne _ _ (by omega)])⟩
  ·omega
  ·omega
  ·rw [List.eraseIdx_eq_take_drop_succ, List.map_append, List.map_take, List.map_drop, List.take_take, Nat.min_self, e2]
 ·refine rS (aN hj (aN hb (aN (far lj) (far lb)))) ?_;refine loop_unroll 3 ?_;refine rD (aN hj (aN hb (aN w1 (aN w2 (aN d1 (aN d2 (aN (far lj) (far lb)))))))) gm.out ?_;refine rS (aN hj (aN hb (aN (far lj) (far lb)))) ?_;refine loop_unroll 3 ?_;refine rS (aN hj (aN hb (aN d3 (aN d4 (aN d5 (aN e1 (aN hkl (aN hkr (aN (far lj) (far lb)))))))))) ?_;refine ⟨_, ?_, ?_, rfl, (upd_same _ _ _).trans ?_, fun z hz => by repeat (first | rfl | rw [upd_ne _ _ (by omega)])⟩
  ·omega
  ·omega
  ·rw [List.eraseIdx_eq_take_drop_succ, List.map_append, List.map_take, List.map_drop, List.take_take, Nat.min_self, List.drop_eq_nil_of_le (by simp; omega), List.append_nil]
theorem put_checks {d : S.Disk} {r : S.Rec} (h : S.checkDisk d = 0) (e : (S.putDisk d r).2 = 0) : S.checkDisk (S.putDisk d r).1 = 0 := by
 unfold S.putDisk at e ⊢;rw [if_neg (by simp [h])] at e ⊢;by_cases h1 : S.checkRec r = 0
 rotate_left
 ·rw [if_pos h1] at e; exact absurd e h1
 rw [if_neg (by simp [h1])] at e ⊢;by_cases h2 : 60000 < (S.recText r).length + 1 + d.safe.length + d.wait.length
 ·rw [if_pos h2] at e; cases e
 rw [if_neg h2];unfold S.checkDisk at h ⊢;by_cases h3 : 60000 < d.safe.length \/ 60000 < d.wait.length + d.safe.length
 ·rw [if_pos h3] at h; cases h
 rw [if_neg h3] at h;rw [if_neg (by simp; omega)];exact h
theorem sub_backC {w q : Int} {A : S.Answer} : SubL SubC (([.at (.bool true), Int' w, Int' q, Int' 0, Int' 0, Int' 0, Int' 0, .nl, Int' A.e, Int' A.pos, .lst false 1 (I A.d)] : List AV).map unfr) (mailC false ⟨true, w, q, S.Cmd.zero, A⟩) :=
 .cons (.refl _) (.cons (.refl _) (.cons (.refl _) (.cons (.refl _) (.cons (.refl _) (.cons (.refl _) (.cons (.refl _) (.cons .nl (.cons (.refl _) (.cons (.refl _) (.cons (.refl _) (.nil _)))))))))))
theorem sub_handC {Z : S.Hand} : SubL SubC ((handC false Z).map unfr) (handC false Z) := by
 show SubL SubC (handC false Z) _;exact ⟨rfl, fun j c c' h3 h4 => by rw [h3] at h4; cases h4; exact .refl _⟩
theorem mail_parts {m : S.Mail} (h : S.checkMail m = 0) : (0 <= m.who /\ m.who < 3) /\ (m.back = false -> S.checkRec ⟨m.who, m.seq, m.c⟩ = 0) := by
 unfold S.checkMail at h;split at h
 ·cases h
 rename_i g;refine ⟨by omega, fun hb => ?_⟩;rw [if_neg (by simp [hb])] at h;split at h
 ·cases h
 ·exact h
theorem ref_Happened_hear (w : S.World) (x : S.Hap) {l : List S.Rec} (hok : OkW w l) (hk : x.kind = 3 \/ x.kind = 4 \/ x.kind = 5) : C Tryz.prog 14 [.agg (worldC false w), .agg (hapC false x)] (happR (S.hearMail w x)) [] := by
 have o1 := hok.hand3;have o2 := hok.mail30;have o3 := hok.mails;have o4 := okW_disk hok;have o5 := okW_hall hok;obtain ⟨H, d, up, hand, mail⟩ := w;obtain ⟨kind, who, n, c⟩ := x;clear hok;simp only at o1 o2 o3 o4 o5 hk;obtain ⟨u, hu⟩ : ∃ u, u = S.hearMail ⟨H, d, up, hand, mail⟩ ⟨kind, who, n, c⟩ := ⟨_, rfl⟩;rw [<- hu];unfold S.hearMail at hu;simp only at hu;have ch := clone_hands (hand.map (handC false)) (by simp; omega) (plain_map (fun _ => rfl) _);have cm := clone_mails (mail.map (mailC false)) (by simp; omega) (plain_map (fun _ => rfl) _);rw [List.length_map] at ch cm;replace ch := hid ch;replace cm := hid cm;have cb := fun e => ref_Happened_bad e
 replace cb := hid cb;refine C_of (S := Sub) (fun h hv => Sub.v h hv) [] (by decide) rfl rfl rfl (CS_inlineZ (typesOk _) [(34, [16169]), (49, [18222])] 13 12 none Tryz.func14 (fun _ _ => by kernel_rfl) rfl (by kernel_rfl) (Nat.le_of_ble_eq_true rfl) ?_);refine rC ch.out ?_;refine rC cm.out ?_;by_cases hn : n < 0
 ·rw [if_pos (.inl hn)] at hu;have hn' : decide (n < 0) = true := by simp [hn]
  rcases hk with rfl | rfl | rfl
  all_goals
   refine rD hn' (cb.out 5) ?_;refine rN ?_;rw [hu];exact happ_bad (n := 0) (by decide)
 have hn' : decide (n < 0) = false := by simp [hn]
 by_cases hn2 : (mail.length : Int) <= n
 ·rw [if_pos (.inr hn2)] at hu;have hn2' : decide ((mail.length : Int) <= n) = true := by simp [hn2]
  rcases hk with rfl | rfl | rfl
  all_goals
   refine rD (aN hn' hn2') (cb.out 5) ?_;refine rN ?_;rw [hu];exact happ_bad (n := 0) (by decide)
 rw [if_neg (by omega)] at hu;obtain ⟨k, rfl⟩ : ∃ k : Nat, n = k := ⟨n.toNat, by omega⟩;have hkl : k < mail.length := by omega
 have hkl0 : k <= mail.length := by omega
 have hkl1 : k + 1 <= mail.length := by omega
 have hn2' : decide (mail.length <= k) = false := by simp; omega
 obtain ⟨m, hx⟩ : ∃ m, mail[k]? = some m := ⟨mail[k], by simp⟩;have hg : mail.getD ((k : Int)).toNat default = m := by simp only [Int.toNat_natCast]; exact getD_of hx
 obtain ⟨hm1, hm2⟩ := mail_parts (o3 m (List.mem_of_getElem? hx));simp only [Int.toNat_natCast] at hg;simp only [Int.toNat_natCast, hg] at hu;have hw : IntKind.i64.wrap ((k : Int) + 1) = (k : Int) + 1 := wrap_ok (by omega);clear hn hn2 hg;obtain ⟨back, mw, q, mc, ma⟩ := m;simp only at hu hm1 hm2;obtain ⟨mwk, rfl⟩ : ∃ k : Nat, mw = k := ⟨mw.toNat, by omega⟩;simp only [Int.toNat_natCast] at hu;obtain ⟨mz, hmz⟩ : ∃ z, hand[mwk]? = some z := ⟨hand[mwk]'(by omega), by simp⟩;have hml : mwk < hand.length := (List.getElem?_eq_some_iff.1 hmz).1;have hgz : hand.getD mwk S.Hand.zero = mz := getD_of hmz;obtain ⟨xl, hxl⟩ : ∃ z, H.last[mwk]? = some z := ⟨H.last[mwk]'(by have := (checkHall_parts o5).2.1; omega), by simp⟩;have hll : mwk < H.last.length := (List.getElem?_eq_some_iff.1 hxl).1;have hgl : H.last.getD mwk S.Last.zero = xl := getD_of hxl;obtain ⟨r, hr⟩ : ∃ r : Nat, mail.length = k + 1 + r := ⟨mail.length - (k + 1), by omega⟩;have hlen : (mail.eraseIdx k).length = k + r := by rw [List.length_eraseIdx, if_pos hkl]; omega
 have hk1 : 0 <= (k : Int) + 1 := by omega
 obtain ⟨v, hv, hv2⟩ : ∃ v, (if k + 1 = mail.length then some (AV.lst true 11 []) else some (AV.own 48 (k + 1) (mail.length - (k + 1)))) = some v /\ ((v = .own 48 (k + 1) r /\ 0 < r) \/ (v = .lst true 11 [] /\ r = 0)) := by
  by_cases g : k + 1 = mail.length
  ·exact ⟨_, by rw [if_pos g], .inr ⟨rfl, by omega⟩⟩
  ·exact ⟨_, by rw [if_neg g], .inl ⟨by congr 1; omega, by omega⟩⟩
 have hvc : cellsA v = [v] := by rcases hv2 with ⟨rfl, _⟩ | ⟨rfl, _⟩ <;> rfl
 rw [cellsA.eq_def] at hvc;replace hv2 := hid hv2;obtain ⟨⟨Z, e⟩, hH⟩ : ∃ r, S.hear mz q ma = r := ⟨_, rfl⟩;have chr := ref_Hears mz q ma;rw [hH] at chr;replace chr := hid chr;replace hH := hid hH;replace hgz := hid hgz;replace hgl := hid hgl;rcases hk with rfl | rfl | rfl
 ·simp only [Int.reduceEq, ne_eq, not_true_eq_false, not_false_eq_true, if_true, if_false] at hu;unfold S.asked S.post at hu;simp only [Int.toNat_natCast, hgz.out, hH.out, hgl.out] at hu;clear hH hgz hgl;refine rS (aN hn' (aN hn2' (aN hx (aN hkl (aN hkl0 (aN hkl1 (aN hw (aN hk1 (aN hv hvc))))))))) ?_;refine call_CSx (concat_mail mail k r _ 48 _ _ _ v hr (by omega) hv2.out (by exact upd_same _ _ _) (by rfl) (by omega) (by omega)) ?_;rintro h' n' res ⟨i, li, ln, rfl, hi, hh⟩;have q4 := hh 4 (by omega);have q8 := hh 8 (by omega);have q20 := hh 20 (by omega);have q36 := hh 36 (by omega);have q164 := hh 164 (by omega);have q180 := hh 180 (by omega);simp -dsimp -implicitDefEqProofs [-getElem?_pos, -List.map_append, -List.map_set, List.getElem?_cons_zero, List.getElem?_cons_succ, hx] at q4 q8 q20 q36 q164 q180;have f4 : 4 < n' := by omega
  have f8 : 8 < n' := by omega
  have f20 : 20 < n' := by omega
  have f36 : 36 < n' := by omega
  have f164 : 164 < n' := by omega
  have f180 : 180 < n' := by omega
  have i4 : ¬ i = 4 := by omega
  have i8 : ¬ i = 8 := by omega
  have i20 : ¬ i = 20 := by omega
  have i36 : ¬ i = 36 := by omega
  have i164 : ¬ i = 164 := by omega
  have i180 : ¬ i = 180 := by omega
  replace hh := hid hh;have F := And.intro hn' (And.intro hn2' (And.intro hx (And.intro hkl (And.intro hmz (And.intro hml (And.intro hxl (And.intro hll (And.intro q4 (And.intro q8 (And.intro q20 (And.intro q36 (And.intro q164 (And.intro q180 (And.intro i4 (And.intro i8 (And.intro i20 (And.intro i36 (And.intro i164 (And.intro i180 (And.intro (Ne.symm i4) (And.intro (Ne.symm i8) (And.intro (Ne.symm i20) (And.intro (Ne.symm i36) (And.intro (Ne.symm i164) (And.intro (Ne.symm i180) (And.intro hi (And.intro (far f4) (And.intro (far f8) (And.intro (far f20) (And.intro (far f36) (And.intro (far f164) (And.intro (far f180) (far ln)))))))))))))))))))))))))))))))));cases back with
  | true =>
   rw [if_pos rfl] at hu;by_cases he : e = 0
   rotate_left
   ·rw [if_pos he] at hu;have he' : decide (e = 0) = false := by simp [he]
    refine rD F chr.out ?_;refine rD (aN he' F) (cb.out e) ?_;refine rS F ?_;rw [hu];exact happ_bad (n := 0) he
   ·subst he;rw [if_neg (by simp)] at hu;refine rD F chr.out ?_;refine rS F ?_;rw [hu];refine happ_ok (n := 0) (t1 := 85) (t2 := 78) (v := ⟨H, d, up, hand.set mwk Z, (mail.eraseIdx k)⟩) ?_ ?_ ((RowsAs.hands hand).set (k := mwk) (x := Z) (row := handC false Z) rfl sub_handC) (RowsAs.mails _) ?_ ?_
    all_goals first
     | rfl
     | (simp [hlen]; done)
     | (repeat (first | exact upd_same _ _ _ | exact hi | exact q36 | rw [upd_ne _ _ (by omega)]))
  | false =>
   rw [if_neg (by simp)] at hu;cases up with
   | false =>
    rw [if_pos rfl] at hu;refine rD F (cb.out 6) ?_;refine rS F ?_;rw [hu];exact happ_bad (n := 0) (by decide)
   | true =>
    rw [if_neg (by simp)] at hu;have hcr := hm2 rfl;have cn := ref_nexted H ⟨mwk, q, mc⟩ o5 hcr;have hno := next_of (h := H) (r := ⟨mwk, q, mc⟩);have hnn : S.nextHall H ⟨mwk, q, mc⟩ = S.nextedHall H ⟨mwk, q, mc⟩ := by unfold S.nextHall; rw [if_neg (by simp [o5]), if_neg (by simp [hcr])]
    rw [hnn] at hu hno;obtain ⟨⟨M, A, e1⟩, hN⟩ : ∃ t, S.nextedHall H ⟨mwk, q, mc⟩ = t := ⟨_, rfl⟩;rw [hN] at hu hno cn;simp only at hu hno;replace cn := hid cn;clear hN hnn;by_cases he : e1 = 0
    rotate_left
    ·rw [if_pos he] at hu;have he' : decide (e1 = 0) = false := by simp [he]
     refine rD F cn.out ?_;refine rS (aN he' F) ?_;rw [hu];refine happ_ok (n := 0) (t1 := 85) (t2 := 78) (v := ⟨H, d, true, hand, (mail.eraseIdx k)⟩) ?_ ?_ (RowsAs.hands _) (RowsAs.mails _) ?_ ?_
     all_goals first
      | rfl
      | (simp [hlen]; done)
      | (repeat (first | exact upd_same _ _ _ | exact hi | exact q36 | rw [upd_ne _ _ (by omega)]))
    subst he;rw [if_neg (by simp)] at hu
    have hseq : q = xl.seq \/ q = xl.seq + 1 := by
     obtain ⟨-, hnx⟩ := hno rfl;rcases hnx.did with ⟨_, n1, g1, g2⟩ | ⟨⟨n1, x1, g1, g2, g3⟩, _⟩
     ·simp only at g1; obtain rfl : mwk = n1 := by omega
      rw [hxl] at g2; cases g2; exact .inl rfl
     ·simp only at g1; obtain rfl : mwk = n1 := by omega
      rw [hxl] at g2; cases g2; exact .inr g3
    clear hno;by_cases hlt : xl.seq < q
    rotate_left
    ·rw [if_neg hlt] at hu;have hlt' : decide (q = xl.seq) = true := by simp; omega
     refine rD F cn.out ?_;refine rS (aN hlt' F) ?_;rw [if_pos (by omega)] at hu;have hm' : decide ((k : Int) + r < 30) = true := by simp; omega
     have hm2 : k + r <= 100000000 := by omega
     have htk : List.take (k + r) ((mail.eraseIdx k).map (mailC false)) = (mail.eraseIdx k).map (mailC false) := List.take_of_length_le (by simp [hlen]);refine CSI Tryz.func59 ?_;refine rS (aN hm' (aN hm2 (aN hlen (aN htk F)))) ?_;rw [hu];refine happ_ok (n := 0) (t1 := 85) (t2 := 78) (v := ⟨H, d, true, hand, (mail.eraseIdx k) ++ [⟨true, mwk, q, S.Cmd.zero, A⟩]⟩) ?_ ?_ (RowsAs.hands _) ((RowsAs.mails _).snoc (x := ⟨true, mwk, q, S.Cmd.zero, A⟩) (row := [.at (.bool true), Int' mwk, Int' q, Int' 0, Int' 0, Int' 0, Int' 0, .nl, Int' A.e, Int' A.pos, .lst false 1 (I A.d)]) rfl sub_backC) ?_ ?_
     all_goals first
      | rfl
      | (simp [hlen]; done)
      | (repeat (first | exact upd_same _ _ _ | exact hi | exact q36 | rw [upd_ne _ _ (by omega)]))
    rw [if_pos hlt] at hu;have hlt' : decide (q = xl.seq) = false := by simp; omega
    have cp := ref_PutOn d ⟨mwk, q, mc⟩ o4;have hpc := put_checks (r := ⟨mwk, q, mc⟩) o4;obtain ⟨⟨X, e2⟩, hP⟩ : ∃ t, S.putDisk d ⟨mwk, q, mc⟩ = t := ⟨_, rfl⟩;rw [hP] at hu cp hpc;simp only at hu hpc;replace cp := hid cp;clear hP;by_cases he2 : e2 = 0
    rotate_left
    ·rw [if_pos he2] at hu;have he2' : decide (e2 = 0) = false := by simp [he2]
     refine rD F cn.out ?_;refine rD (aN hlt' F) cp.out ?_;refine rS (aN he2' F) ?_;rw [hu];refine happ_ok (n := 0) (t1 := 85) (t2 := 78) (v := ⟨H, d, true, hand, (mail.eraseIdx k)⟩) ?_ ?_ (RowsAs.hands _) (RowsAs.mails _) ?_ ?_
     all_goals first
      | rfl
      | (simp [hlen]; done)
      | (repeat (first | exact upd_same _ _ _ | exact hi | exact q36 | rw [upd_ne _ _ (by omega)]))
    subst he2;rw [if_neg (by simp)] at hu;have csy := ref_Synced X (hpc rfl);obtain ⟨⟨Y, e3⟩, hS⟩ : ∃ t, S.syncDisk X = t := ⟨_, rfl⟩;rw [hS] at hu csy;simp only at hu;replace csy := hid csy;clear hS hpc;by_cases he3 : e3 = 0
    rotate_left
    ·rw [if_pos he3] at hu;have he3' : decide (e3 = 0) = false := by simp [he3]
     refine rD F cn.out ?_;refine rD (aN hlt' F) cp.out ?_;refine rD F csy.out ?_;refine rS (aN he3' F) ?_;rw [hu];refine happ_ok (n := 0) (t1 := 85) (t2 := 78) (v := ⟨H, d, true, hand, (mail.eraseIdx k)⟩) ?_ ?_ (RowsAs.hands _) (RowsAs.mails _) ?_ ?_
     all_goals first
      | rfl
      | (simp [hlen]; done)
      | (repeat (first | exact upd_same _ _ _ | exact hi | exact q36 | rw [upd_ne _ _ (by omega)]))
    subst he3;rw [if_neg (by simp)] at hu;refine rD F cn.out ?_;refine rD (aN hlt' F) cp.out ?_;refine rD F csy.out ?_;refine rS F ?_;rw [if_pos (by omega)] at hu;have hm' : decide ((k : Int) + r < 30) = true := by simp; omega
    have hm2 : k + r <= 100000000 := by omega
    have htk : List.take (k + r) ((mail.eraseIdx k).map (mailC false)) = (mail.eraseIdx k).map (mailC false) := List.take_of_length_le (by simp [hlen]);refine CSI Tryz.func59 ?_;refine rS (aN hm' (aN hm2 (aN hlen (aN htk F)))) ?_;rw [hu];refine happ_ok (n := 0) (t1 := 85) (t2 := 78) (v := ⟨M, Y, true, hand, (mail.eraseIdx k) ++ [⟨true, mwk, q, S.Cmd.zero, A⟩]⟩) ?_ ?_ (RowsAs.hands _) ((RowsAs.mails _).snoc (x := ⟨true, mwk, q, S.Cmd.zero, A⟩) (row := [.at (.bool true), Int' mwk, Int' q, Int' 0, Int' 0, Int' 0, Int' 0, .nl, Int' A.e, Int' A.pos, .lst false 1 (I A.d)]) rfl sub_backC) ?_ ?_
    all_goals first
     | rfl
     | (simp [hlen]; done)
     | (repeat (first | exact upd_same _ _ _ | exact hi | exact q36 | rw [upd_ne _ _ (by omega)]))
 ·simp only [Int.reduceEq, ne_eq, not_true_eq_false, not_false_eq_true, if_true, if_false] at hu;unfold S.asked S.post at hu;simp only [Int.toNat_natCast, hgz.out, hH.out, hgl.out] at hu;clear hH hgz hgl;have F := And.intro hn' (And.intro hn2' (And.intro hx (And.intro hkl (And.intro hmz (And.intro hml (And.intro hxl hll))))));cases back with
  | true =>
   rw [if_pos rfl] at hu;by_cases he : e = 0
   rotate_left
   ·rw [if_pos he] at hu;have he' : decide (e = 0) = false := by simp [he]
    refine rD F chr.out ?_;refine rD (aN he' F) (cb.out e) ?_;refine rS F ?_;rw [hu];exact happ_bad (n := 0) he
   ·subst he;rw [if_neg (by simp)] at hu;refine rD F chr.out ?_;refine rS F ?_;rw [hu];refine happ_ok (n := 0) (t1 := 85) (t2 := 78) (v := ⟨H, d, up, hand.set mwk Z, mail⟩) ?_ ?_ ((RowsAs.hands hand).set (k := mwk) (x := Z) (row := handC false Z) rfl sub_handC) (RowsAs.mails _) ?_ ?_
    all_goals first
     | rfl
     | (simp; done)
  | false =>
   rw [if_neg (by simp)] at hu;cases up with
   | false =>
    rw [if_pos rfl] at hu;refine rD F (cb.out 6) ?_;refine rS F ?_;rw [hu];exact happ_bad (n := 0) (by decide)
   | true =>
    rw [if_neg (by simp)] at hu;have hcr := hm2 rfl;have cn := ref_nexted H ⟨mwk, q, mc⟩ o5 hcr;have hno := next_of (h := H) (r := ⟨mwk, q, mc⟩);have hnn : S.nextHall H ⟨mwk, q, mc⟩ = S.nextedHall H ⟨mwk, q, mc⟩ := by unfold S.nextHall; rw [if_neg (by simp [o5]), if_neg (by simp [hcr])]
    rw [hnn] at hu hno;obtain ⟨⟨M, A, e1⟩, hN⟩ : ∃ t, S.nextedHall H ⟨mwk, q, mc⟩ = t := ⟨_, rfl⟩;rw [hN] at hu hno cn;simp only at hu hno;replace cn := hid cn;clear hN hnn;by_cases he : e1 = 0
    rotate_left
    ·rw [if_pos he] at hu;have he' : decide (e1 = 0) = false := by simp [he]
     refine rD F cn.out ?_;refine rS (aN he' F) ?_;rw [hu];refine happ_ok (n := 0) (t1 := 85) (t2 := 78) (v := ⟨H, d, true, hand, mail⟩) ?_ ?_ (RowsAs.hands _) (RowsAs.mails _) ?_ ?_
     all_goals first
      | rfl
      | (simp; done)
    subst he;rw [if_neg (by simp)] at hu
    have hseq : q = xl.seq \/ q = xl.seq + 1 := by
     obtain ⟨-, hnx⟩ := hno rfl;rcases hnx.did with ⟨_, n1, g1, g2⟩ | ⟨⟨n1, x1, g1, g2, g3⟩, _⟩
     ·simp only at g1; obtain rfl : mwk = n1 := by omega
      rw [hxl] at g2; cases g2; exact .inl rfl
     ·simp only at g1; obtain rfl : mwk = n1 := by omega
      rw [hxl] at g2; cases g2; exact .inr g3
    clear hno;by_cases hlt : xl.seq < q
    rotate_left
    ·rw [if_neg hlt] at hu;have hlt' : decide (q = xl.seq) = true := by simp; omega
     refine rD F cn.out ?_;refine rS (aN hlt' F) ?_;refine CSI Tryz.func59 ?_;by_cases hm : mail.length < 30
     ·rw [if_pos hm] at hu;have hm' : decide ((mail.length : Int) < 30) = true := by simp; omega
      have hm2 : decide (mail.length <= 100000000) = true := by simp; omega
      refine rS (aN hm' (aN hm2 F)) ?_;rw [hu];refine happ_ok (n := 0) (t1 := 85) (t2 := 78) (v := ⟨H, d, true, hand, mail ++ [⟨true, mwk, q, S.Cmd.zero, A⟩]⟩) ?_ ?_ (RowsAs.hands _) ((RowsAs.mails _).snoc (x := ⟨true, mwk, q, S.Cmd.zero, A⟩) (row := [.at (.bool true), Int' mwk, Int' q, Int' 0, Int' 0, Int' 0, Int' 0, .nl, Int' A.e, Int' A.pos, .lst false 1 (I A.d)]) rfl sub_backC) ?_ ?_
      all_goals first
       | rfl
       | (simp; done)
     ·rw [if_neg hm] at hu;have hm' : decide ((mail.length : Int) < 30) = false := by simp; omega
      refine rS (aN hm' F) ?_;rw [hu];refine happ_ok (n := 0) (t1 := 85) (t2 := 78) (v := ⟨H, d, true, hand, mail⟩) ?_ ?_ (RowsAs.hands _) (RowsAs.mails _) ?_ ?_
      all_goals first
       | rfl
       | (simp; done)
    rw [if_pos hlt] at hu;have hlt' : decide (q = xl.seq) = false := by simp; omega
    have cp := ref_PutOn d ⟨mwk, q, mc⟩ o4;have hpc := put_checks (r := ⟨mwk, q, mc⟩) o4;obtain ⟨⟨X, e2⟩, hP⟩ : ∃ t, S.putDisk d ⟨mwk, q, mc⟩ = t := ⟨_, rfl⟩;rw [hP] at hu cp hpc;simp only at hu hpc;replace cp := hid cp;clear hP;by_cases he2 : e2 = 0
    rotate_left
    ·rw [if_pos he2] at hu;have he2' : decide (e2 = 0) = false := by simp [he2]
     refine rD F cn.out ?_;refine rD (aN hlt' F) cp.out ?_;refine rS (aN he2' F) ?_;rw [hu];refine happ_ok (n := 0) (t1 := 85) (t2 := 78) (v := ⟨H, d, true, hand, mail⟩) ?_ ?_ (RowsAs.hands _) (RowsAs.mails _) ?_ ?_
     all_goals first
      | rfl
      | (simp; done)
    subst he2;rw [if_neg (by simp)] at hu;have csy := ref_Synced X (hpc rfl);obtain ⟨⟨Y, e3⟩, hS⟩ : ∃ t, S.syncDisk X = t := ⟨_, rfl⟩;rw [hS] at hu csy;simp only at hu;replace csy := hid csy;clear hS hpc;by_cases he3 : e3 = 0
    rotate_left
    ·rw [if_pos he3] at hu;have he3' : decide (e3 = 0) = false := by simp [he3]
     refine rD F cn.out ?_;refine rD (aN hlt' F) cp.out ?_;refine rD F csy.out ?_;refine rS (aN he3' F) ?_;rw [hu];refine happ_ok (n := 0) (t1 := 85) (t2 := 78) (v := ⟨H, d, true, hand, mail⟩) ?_ ?_ (RowsAs.hands _) (RowsAs.mails _) ?_ ?_
     all_goals first
      | rfl
      | (simp; done)
    subst he3;rw [if_neg (by simp)] at hu;refine rD F cn.out ?_;refine rD (aN hlt' F) cp.out ?_;refine rD F csy.out ?_;refine rS F ?_;refine CSI Tryz.func59 ?_;by_cases hm : mail.length < 30
    ·rw [if_pos hm] at hu;have hm' : decide ((mail.length : Int) < 30) = true := by simp; omega
     have hm2 : decide (mail.length <= 100000000) = true := by simp; omega
     refine rS (aN hm' (aN hm2 F)) ?_;rw [hu];refine happ_ok (n := 0) (t1 := 85) (t2 := 78) (v := ⟨M, Y, true, hand, mail ++ [⟨true, mwk, q, S.Cmd.zero, A⟩]⟩) ?_ ?_ (RowsAs.hands _) ((RowsAs.mails _).snoc (x := ⟨true, mwk, q, S.Cmd.zero, A⟩) (row := [.at (.bool true), Int' mwk, Int' q, Int' 0, Int' 0, Int' 0, Int' 0, .nl, Int' A.e, Int' A.pos, .lst false 1 (I A.d)]) rfl sub_backC) ?_ ?_
     all_goals first
      | rfl
      | (simp; done)
    ·rw [if_neg hm] at hu;have hm' : decide ((mail.length : Int) < 30) = false := by simp; omega
     refine rS (aN hm' F) ?_;rw [hu];refine happ_ok (n := 0) (t1 := 85) (t2 := 78) (v := ⟨M, Y, true, hand, mail⟩) ?_ ?_ (RowsAs.hands _) (RowsAs.mails _) ?_ ?_
     all_goals first
      | rfl
      | (simp; done)
 ·simp only [Int.reduceEq, ne_eq, not_true_eq_false, not_false_eq_true, if_true, if_false] at hu;refine rS (aN hn' (aN hn2' (aN hx (aN hkl (aN hkl0 (aN hkl1 (aN hw (aN hk1 (aN hv hvc))))))))) ?_;refine call_CSx (concat_mail mail k r _ 48 _ _ _ v hr (by omega) hv2.out (by exact upd_same _ _ _) (by rfl) (by omega) (by omega)) ?_;rintro h' n' res ⟨i, li, ln, rfl, hi, hh⟩;have q4 := hh 4 (by omega);have q8 := hh 8 (by omega);have q20 := hh 20 (by omega);have q36 := hh 36 (by omega);have q180 := hh 180 (by omega);simp -dsimp -implicitDefEqProofs [-getElem?_pos, -List.map_append, -List.map_set, List.getElem?_cons_zero, List.getElem?_cons_succ, hx] at q4 q8 q20 q36 q180;have f4 : 4 < n' := by omega
  have f8 : 8 < n' := by omega
  have f20 : 20 < n' := by omega
  have f36 : 36 < n' := by omega
  have f180 : 180 < n' := by omega
  have i4 : ¬ i = 4 := by omega
  have i8 : ¬ i = 8 := by omega
  have i20 : ¬ i = 20 := by omega
  have i36 : ¬ i = 36 := by omega
  have i180 : ¬ i = 180 := by omega
  replace hh := hid hh;have F := And.intro hn' (And.intro hn2' (And.intro hx (And.intro hkl (And.intro hmz (And.intro hml (And.intro hxl (And.intro hll (And.intro q4 (And.intro q8 (And.intro q20 (And.intro q36 (And.intro q180 (And.intro i4 (And.intro i8 (And.intro i20 (And.intro i36 (And.intro i180 (And.intro (Ne.symm i4) (And.intro (Ne.symm i8) (And.intro (Ne.symm i20) (And.intro (Ne.symm i36) (And.intro (Ne.symm i180) (And.intro hi (And.intro (far f4) (And.intro (far f8) (And.intro (far f20) (And.intro (far f36) (And.intro (far f180) (far ln)))))))))))))))))))))))))))));refine rS F ?_;rw [hu];refine happ_ok (n := 0) (t1 := 85) (t2 := 78) (v := ⟨H, d, up, hand, (mail.eraseIdx k)⟩) ?_ ?_ (RowsAs.hands _) (RowsAs.mails _) ?_ ?_
  all_goals first
   | rfl
   | (simp [hlen]; done)
   | (repeat (first | exact upd_same _ _ _ | exact hi | exact q36 | rw [upd_ne _ _ (by omega)]))
end Go.Proofs.YtadmfokicjjglaaGreatDoor.E
