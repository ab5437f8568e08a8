/- P3: Pe: what happens to a world of one's own: mail is posted; the hall hears. Pf: what happens to a world of one's own: power; mail is heard; all of it. Pg: mail is heard in a world of one's own. Ph: what happens in a world of one's own; world.Do. Pi: world.Do. Pj: world.Run. Pk: rows of errors; law.asked. -/
import Derived.Test.YtadmfokicjjglaaGreatDoorP1
import Derived.Test.YtadmfokicjjglaaGreatDoorW2
import Derived.Test.YtadmfokicjjglaaGreatDoorX3
import Derived.Test.YtadmfokicjjglaaGreatDoorK1
import Derived.Test.YtadmfokicjjglaaGreatDoorD4
namespace Go.Proofs.YtadmfokicjjglaaGreatDoor.E
open Go.RowKit Go.Proofs
set_option linter.unusedVariables false
set_option linter.unusedSimpArgs false
set_option maxRecDepth 100000
set_option maxHeartbeats 2000000
structure WAt (h : Heap) (n i a b : Nat) (w : S.World) : Prop where
 hi : h i = some ⟨37, 10, [ownW true w a b]⟩
 ha : h a = some ⟨85, 8, w.hand.map (handC true)⟩
 hb : h b = some ⟨78, 11, w.mail.map (mailC true)⟩
 li : i < n
 la : a < n
 lb : b < n
 ia : i ≠ a
 ib : i ≠ b
 ab : a ≠ b
structure WOut (h0 : Heap) (n0 i a b : Nat) (w : S.World) (h : Heap) (n : Nat) : Prop where
 at' : ∃ b', WAt h n i a b' w /\ (b' = b \/ n0 <= b')
 n : n0 <= n
 rest : ∀ z, z < n0 -> z ≠ i -> z ≠ a -> z ≠ b -> h z = h0 z
theorem world_post (w : S.World) (m : S.Mail) (i a b n0 : Nat) (h0 : Heap) (W : WAt h0 n0 i a b w) (hm : w.mail.length <= 1000) :
  CS Tryz.prog 81 [.ptr i 10 0 0, .agg (mailC true m)] h0 n0 (fun h n r => r = .tup [] /\ WOut h0 n0 i a b (S.post w m) h n) := by
 obtain ⟨hi, ha, hb, li, la, lb, ia, ib, ab⟩ := W;obtain ⟨H, d, up, hand, mail⟩ := w;simp only at hm ha hb;have q1 : decide (100000000 < 1) = false := by decide
 have q2 : mail.length <= 100000000 := by omega
 refine CS_inline (typesOk _) Tryz.func81 (fun _ _ => by kernel_rfl) rfl (by kernel_rfl) (Nat.le_of_ble_eq_true rfl) ?_;unfold S.post;simp only;by_cases g : mail.length < 30
 ·rw [if_pos g];have g' : decide (mail.length < 30) = true := by simp [g]
  have g'' : decide ((mail.length : Int) < 30) = true := by simp; omega
  refine rS (aN hi (aN ha (aN hb (aN g' (aN g'' (aN q1 (aN q2 (aN (far li) (aN (far la) (aN (far lb) (aN ia (aN ib ab)))))))))))) ?_;refine ⟨⟨n0 + 4 + 24 + 28, ⟨?_, ?_, ?_, by omega, by omega, by omega, ia, by omega, by omega⟩, .inr (by omega)⟩, by omega, fun z h1 h2 h3 h4 => by repeat (first | rfl | rw [upd_ne _ _ (by omega)])⟩
  ·simp only [ownW, List.length_append, List.length_cons, List.length_nil];exact upd_same _ _ _
  ·repeat (first | exact ha | rw [upd_ne _ _ (by omega)])
  ·rw [upd_ne _ _ (by omega), upd_same, List.map_append];rfl
 ·rw [if_neg g];have g' : decide (mail.length < 30) = false := by simp [g]
  have g'' : decide ((mail.length : Int) < 30) = false := by simp; omega
  refine rS (aN hi (aN ha (aN hb (aN g' (aN g'' (aN q1 (aN q2 (aN (far li) (aN (far la) (aN (far lb) (aN ia (aN ib ab)))))))))))) ?_;exact ⟨⟨b, ⟨by repeat (first | exact hi | rw [upd_ne _ _ (by omega)]), by repeat (first | exact ha | rw [upd_ne _ _ (by omega)]), by repeat (first | exact hb | rw [upd_ne _ _ (by omega)]), by omega, by omega, by omega, ia, ib, ab⟩, .inl rfl⟩, by omega, fun z h1 h2 h3 h4 => by repeat (first | rfl | rw [upd_ne _ _ (by omega)])⟩
def SubRow (rows rows' : List (List AV)) : Prop := rows.length = rows'.length /\ ∀ (k : Nat) (r r' : List AV), rows[k]? = some r -> rows'[k]? = some r' -> SubL SubF r r'
theorem SubRow.refl (rows : List (List AV)) : SubRow rows rows := ⟨rfl, fun k r r' h1 h2 => by rw [h1] at h2; cases h2; exact SubL.reflF _⟩
theorem SubRow.map {α : Type} {f g : α -> List AV} (h : ∀ x, SubL SubF (f x) (g x)) (l : List α) : SubRow (l.map f) (l.map g) := by
 refine ⟨by simp, fun k r r' h1 h2 => ?_⟩;rw [List.getElem?_map] at h1 h2;cases hx : l[k]? with
 | none => rw [hx] at h1; cases h1
 | some x => rw [hx] at h1 h2; cases h1; cases h2; exact h x
theorem SubRow.set {rows rows' : List (List AV)} {k : Nat} {r r' : List AV} (h : SubRow rows rows') (hr : SubL SubF r r') : SubRow (rows.set k r) (rows'.set k r') := by
 refine ⟨by simp [h.1], fun j x x' h1 h2 => ?_⟩;rw [List.getElem?_set] at h1 h2;by_cases g : k = j
 ·rw [if_pos g] at h1 h2;split at h1
  ·cases h1;rw [if_pos (by rw [<- h.1]; assumption)] at h2;cases h2;exact hr
  ·cases h1
 ·rw [if_neg g] at h1 h2;exact h.2 j x x' h1 h2
theorem sub_back {w q : Int} {A : S.Answer} : SubL SubF [.at (.bool true), Int' w, Int' q, Int' 0, Int' 0, Int' 0, Int' 0, .nl, Int' A.e, Int' A.pos, .lst true 1 (I A.d)] (mailC true ⟨true, w, q, S.Cmd.zero, A⟩) :=
 .cons (.refl _) (.cons (.refl _) (.cons (.refl _) (.cons (.refl _) (.cons (.refl _) (.cons (.refl _) (.cons (.refl _) (.cons .nl (.cons (.refl _) (.cons (.refl _) (.cons (.lst (fun h => h) (SubR.refl _)) (.nil _)))))))))))
structure WSub (h : Heap) (n i a b : Nat) (w : S.World) : Prop where
 hi : ∃ cells, h i = some ⟨37, 10, [cells]⟩ /\ SubL SubF cells (ownW true w a b)
 ha : ∃ rows, h a = some ⟨85, 8, rows⟩ /\ SubRow rows (w.hand.map (handC true))
 hb : ∃ rows, h b = some ⟨78, 11, rows⟩ /\ SubRow rows (w.mail.map (mailC true))
 li : i < n
 la : a < n
 lb : b < n
 ia : i ≠ a
 ib : i ≠ b
 ab : a ≠ b
theorem HSub.upd {h h' : Heap} {i : Nat} {e e' : HE} (hs : HSub h h') (he : h i = some e) (h1 : e.ty = e'.ty) (h2 : e.s = e'.s) (h3 : SubRow e.rows e'.rows) : HSub h (upd h' i (some e')) := by
 intro j ej hj;by_cases hc : j = i
 ·subst hc;rw [upd_same] at hj;cases hj;exact ⟨e, he, h1, h2, h3.1, h3.2⟩
 ·rw [upd_ne _ _ hc] at hj;exact hs j ej hj
theorem SubRow.one {r r' : List AV} (h : SubL SubF r r') : SubRow [r] [r'] := by
 refine ⟨rfl, fun k x x' h1 h2 => ?_⟩;cases k with
 | zero => cases h1; cases h2; exact h
 | succ k => simp at h1
theorem WSub.at' {h : Heap} {n i a b : Nat} {w : S.World} (W : WSub h n i a b w) : ∃ h', HSub h h' /\ WAt h' n i a b w /\ ∀ z, z ≠ i -> z ≠ a -> z ≠ b -> h' z = h z := by
 obtain ⟨⟨cells, hi, si⟩, ⟨ra, ha, sa⟩, ⟨rb, hb, sb⟩, li, la, lb, ia, ib, ab⟩ := W;refine ⟨E.upd (E.upd (E.upd h i (some ⟨37, 10, [ownW true w a b]⟩)) a (some ⟨85, 8, w.hand.map (handC true)⟩)) b (some ⟨78, 11, w.mail.map (mailC true)⟩), ?_, ⟨?_, ?_, upd_same _ _ _, li, la, lb, ia, ib, ab⟩, fun z h1 h2 h3 => by rw [upd_ne _ _ h3, upd_ne _ _ h2, upd_ne _ _ h1]⟩
 ·exact (((HSub.refl h).upd (e' := ⟨37, 10, [ownW true w a b]⟩) hi rfl rfl (.one si)).upd (e' := ⟨85, 8, w.hand.map (handC true)⟩) ha rfl rfl sa).upd (e' := ⟨78, 11, w.mail.map (mailC true)⟩) hb rfl rfl sb
 ·rw [upd_ne _ _ ib, upd_ne _ _ ia, upd_same]
 ·rw [upd_ne _ _ ab, upd_same]
theorem WAt.sub {h : Heap} {n i a b : Nat} {w : S.World} (W : WAt h n i a b w) : WSub h n i a b w := ⟨⟨_, W.hi, SubL.reflF _⟩, ⟨_, W.ha, SubRow.refl _⟩, ⟨_, W.hb, SubRow.refl _⟩, W.li, W.la, W.lb, W.ia, W.ib, W.ab⟩
theorem CS.world {f : FuncId} {args args2 : List AV} {h0 : Heap} {n0 i a b : Nat} {w : S.World} {Q : Heap -> Heap -> Nat -> AV -> Prop}
  (hc : ∀ h, WAt h n0 i a b w -> CS Tryz.prog f args h n0 (Q h)) (hQ : ∀ h', (∀ z, z ≠ i -> z ≠ a -> z ≠ b -> h' z = h0 z) -> ∀ h1 n r, Q h' h1 n r -> Q h0 h1 n r) (W : WSub h0 n0 i a b w) (hs : SubL SubA args2 args) : CS Tryz.prog f args2 h0 n0 (Q h0) := by
 obtain ⟨h', s1, s2, s3⟩ := W.at';exact (((hc h' s2).pre s1).args hs).mono' (hQ h' s3)
theorem WOut.frame {h0 h' : Heap} {n0 i a b : Nat} {u : S.World} (s3 : ∀ z, z ≠ i -> z ≠ a -> z ≠ b -> h' z = h0 z) {h1 : Heap} {n : Nat} (h2 : WOut h' n0 i a b u h1 n) : WOut h0 n0 i a b u h1 n :=
 ⟨h2.at', h2.n, fun z g1 g2 g3 g4 => (h2.rest z g1 g2 g3 g4).trans (s3 z g2 g3 g4)⟩
theorem WAt.up {h h0 : Heap} {n n0 i a b : Nat} {w : S.World} (W : WAt h0 n0 i a b w) (hn : n0 <= n) (hh : ∀ z, z < n0 -> h z = h0 z) : WAt h n i a b w :=
 ⟨by rw [hh i W.li]; exact W.hi, by rw [hh a W.la]; exact W.ha, by rw [hh b W.lb]; exact W.hb, Nat.lt_of_lt_of_le W.li hn, Nat.lt_of_lt_of_le W.la hn, Nat.lt_of_lt_of_le W.lb hn, W.ia, W.ib, W.ab⟩
theorem WAt.keep {h h0 : Heap} {n n0 i a b : Nat} {w : S.World} (W : WAt h0 n0 i a b w) (hn : n0 <= n) (hh : ∀ z, z < n0 -> h z = h0 z) : WOut h0 n0 i a b w h n :=
 ⟨⟨b, ⟨by rw [hh i W.li]; exact W.hi, by rw [hh a W.la]; exact W.ha, by rw [hh b W.lb]; exact W.hb, Nat.lt_of_lt_of_le W.li hn, Nat.lt_of_lt_of_le W.la hn, Nat.lt_of_lt_of_le W.lb hn, W.ia, W.ib, W.ab⟩, .inl rfl⟩, hn, fun z h1 _ _ _ => hh z h1⟩
theorem post_world {w : S.World} {m : S.Mail} {i a b n0 : Nat} {h0 : Heap} (W : WSub h0 n0 i a b w) (hm : w.mail.length <= 1000) {cells : List AV} (hs : SubL SubF cells (mailC true m)) :
  CS Tryz.prog 81 [.ptr i 10 0 0, .agg cells] h0 n0 (fun h n r => WOut h0 n0 i a b (S.post w m) h n) :=
 CS.world (Q := fun h0 h n r => WOut h0 n0 i a b (S.post w m) h n) (fun h W => (world_post w m i a b n0 h W hm).mono' fun h1 n r hx => hx.2) (fun h' s h1 n r h2 => h2.frame s) W (.cons (.refl _) (.cons (.agg hs) (.nil _)))
theorem WOut.after {h0 h1 h2 : Heap} {n0 n1 n2 n3 i a b : Nat} {v : S.World} (hn : n0 <= n1) (hh : ∀ z, z < n0 -> z ≠ i -> z ≠ a -> z ≠ b -> h1 z = h0 z) (h : WOut h1 n1 i a b v h2 n2) (la : a < n0) (lb : b < n0) (li : i < n0) (h3 : n2 <= n3) : WOut h0 n0 i a b v h2 n3 := by
 obtain ⟨⟨b', g1, g2⟩, g3, g4⟩ := h;obtain ⟨q1, q2, q3, q4, q5, q6, q7, q8, q9⟩ := g1;exact ⟨⟨b', ⟨q1, q2, q3, by omega, by omega, by omega, q7, q8, q9⟩, by omega⟩, by omega, fun z z1 z2 z3 z4 => (g4 z (by omega) z2 z3 z4).trans (hh z z1 z2 z3 z4)⟩
theorem WAt.put {h h0 : Heap} {n n0 i a b : Nat} {w v : S.World} {cells : List AV} (W : WAt h0 n0 i a b w) (hn : n0 <= n) (hc : SubL SubF cells (ownW true v a b)) (h1 : v.hand = w.hand) (h2 : v.mail = w.mail) (hi : h i = some ⟨37, 10, [cells]⟩) (hh : ∀ z, z < n0 -> z ≠ i -> h z = h0 z) : WSub h n i a b v :=
 ⟨⟨cells, hi, hc⟩, ⟨_, by rw [hh a W.la (Ne.symm W.ia)]; exact W.ha, by rw [h1]; exact SubRow.refl _⟩, ⟨_, by rw [hh b W.lb (Ne.symm W.ib)]; exact W.hb, by rw [h2]; exact SubRow.refl _⟩, Nat.lt_of_lt_of_le W.li hn, Nat.lt_of_lt_of_le W.la hn, Nat.lt_of_lt_of_le W.lb hn, W.ia, W.ib, W.ab⟩
theorem world_asked (w : S.World) (m : S.Mail) (i a b n0 : Nat) (h0 : Heap) (W : WAt h0 n0 i a b w) (hm : w.mail.length <= 1000) :
  CS Tryz.prog 115 [.ptr i 10 0 0, .agg (mailC false m)] h0 n0 (fun h n r => WOut h0 n0 i a b (S.asked w m) h n) := by
 have W0 := W;obtain ⟨hi, ha, hb, li, la, lb, ia, ib, ab⟩ := W;replace W0 := hid W0;obtain ⟨H, d, up, hand, mail⟩ := w;obtain ⟨nn, rfl⟩ : ∃ nn, n0 = nn + 1 := ⟨n0 - 1, by omega⟩;obtain ⟨back, who, seq, c, an⟩ := m;simp only at hm ha hb;obtain ⟨u, hu⟩ : ∃ u, u = S.asked ⟨H, d, up, hand, mail⟩ ⟨back, who, seq, c, an⟩ := ⟨_, rfl⟩;rw [<- hu];unfold S.asked at hu;simp only at hu;obtain ⟨⟨M, A, e⟩, hN⟩ : ∃ q, S.nextHall H ⟨who, seq, c⟩ = q := ⟨_, rfl⟩;have cn := hid (next_eq hN);have hno := next_of (h := H) (r := ⟨who, seq, c⟩);rw [hN] at hu hno;simp only at hu hno;refine CS_inlineG (typesOk _) [(12, [6069])] Tryz.func115 (fun _ _ => by kernel_rfl) rfl (by kernel_rfl) (Nat.le_of_ble_eq_true rfl) ?_;by_cases he : e = 0
 rotate_left
 ·rw [if_pos he] at hu;replace hu := hid hu;clear hN hno;refine rD (aN hi (aN ha (aN hb (aN (far li) (aN (far la) (aN (far lb) (aN ia (aN ib ab)))))))) cn.out ?_;refine rS (aN hi (aN ha (aN hb (aN he (aN (far li) (aN (far la) (aN (far lb) (aN ia (aN ib ab))))))))) ?_;rw [hu.out];exact W0.out.keep (by omega) fun z hz => by repeat (first | rfl | rw [upd_ne _ _ (by omega)])
 obtain ⟨-, hnx⟩ := hno he;have hp := checkHall_parts hnx.h0;have hr := checkRec_parts hnx.r0;obtain ⟨k, hk⟩ : ∃ k : Nat, who = k := ⟨who.toNat, by have := hr.1; simp only at this; omega⟩;subst hk;have hk3 : k < H.last.length := by have := hr.2.1; simp only at this; rw [hp.2.1]; omega
 obtain ⟨x, hx⟩ : ∃ x, H.last[k]? = some x := ⟨H.last[k], by simp⟩;have hg : H.last.getD ((k : Int)).toNat S.Last.zero = x := by simp only [Int.toNat_natCast]; exact getD_of hx
 rw [if_neg (by simp [he]), hg] at hu;subst he;clear hN hno hnx hp hr hg;by_cases hlt : x.seq < seq
 rotate_left
 ·rw [if_neg hlt] at hu;have hlt' : decide (x.seq < seq) = false := by simp; omega
  replace hu := hid hu;refine rD (aN hi (aN ha (aN hb (aN (far li) (aN (far la) (aN (far lb) (aN ia (aN ib ab)))))))) cn.out ?_;refine rS (aN hi (aN ha (aN hb (aN hx (aN hlt' (aN (far li) (aN (far la) (aN (far lb) (aN ia (aN ib ab)))))))))) ?_;refine call_CSx (post_world (w := ⟨H, d, up, hand, mail⟩) (m := ⟨true, k, seq, S.Cmd.zero, A⟩) (W0.out.up (by omega) fun z hz => by repeat (first | rfl | rw [upd_ne _ _ (by omega)])).sub hm sub_back) ?_;intro h' n' r hW;refine rN ?_;rw [hu.out];exact hW.after (by omega) (fun z hz _ _ _ => by repeat (first | rfl | rw [upd_ne _ _ (by omega)])) la lb li (by omega)
 rw [if_pos hlt] at hu;have hlt' : decide (x.seq < seq) = true := by simp; omega
 obtain ⟨⟨X, e1⟩, hP⟩ : ∃ q, S.putDisk d ⟨k, seq, c⟩ = q := ⟨_, rfl⟩;have cp := hid (put_eq hP);rw [hP] at hu;simp only at hu;clear hP;by_cases he1 : e1 = 0
 rotate_left
 ·rw [if_pos he1] at hu;replace hu := hid hu;refine rD (aN hi (aN ha (aN hb (aN (far li) (aN (far la) (aN (far lb) (aN ia (aN ib ab)))))))) cn.out ?_;refine rD (aN hi (aN ha (aN hb (aN hx (aN hlt' (aN (far li) (aN (far la) (aN (far lb) (aN ia (aN ib ab)))))))))) cp.out ?_;refine rS (aN hi (aN ha (aN hb (aN he1 (aN (far li) (aN (far la) (aN (far lb) (aN ia (aN ib ab))))))))) ?_;rw [hu.out];exact W0.out.keep (by omega) fun z hz => by repeat (first | rfl | rw [upd_ne _ _ (by omega)])
 subst he1;rw [if_neg (by simp)] at hu;obtain ⟨⟨Y, e2⟩, hS⟩ : ∃ q, S.syncDisk X = q := ⟨_, rfl⟩;have cs := hid (sync_eq hS);rw [hS] at hu;simp only at hu;clear hS;by_cases he2 : e2 = 0
 rotate_left
 ·rw [if_pos he2] at hu;replace hu := hid hu;refine rD (aN hi (aN ha (aN hb (aN (far li) (aN (far la) (aN (far lb) (aN ia (aN ib ab)))))))) cn.out ?_;refine rD (aN hi (aN ha (aN hb (aN hx (aN hlt' (aN (far li) (aN (far la) (aN (far lb) (aN ia (aN ib ab)))))))))) cp.out ?_;refine rD (aN hi (aN ha (aN hb (aN (far li) (aN (far la) (aN (far lb) (aN ia (aN ib ab)))))))) cs.out ?_;refine rS (aN hi (aN ha (aN hb (aN he2 (aN (far li) (aN (far la) (aN (far lb) (aN ia (aN ib ab))))))))) ?_;rw [hu.out];exact W0.out.keep (by omega) fun z hz => by repeat (first | rfl | rw [upd_ne _ _ (by omega)])
 subst he2;rw [if_neg (by simp)] at hu;replace hu := hid hu;refine rD (aN hi (aN ha (aN hb (aN (far li) (aN (far la) (aN (far lb) (aN ia (aN ib ab)))))))) cn.out ?_;refine rD (aN hi (aN ha (aN hb (aN hx (aN hlt' (aN (far li) (aN (far la) (aN (far lb) (aN ia (aN ib ab)))))))))) cp.out ?_;refine rD (aN hi (aN ha (aN hb (aN (far li) (aN (far la) (aN (far lb) (aN ia (aN ib ab)))))))) cs.out ?_;refine rS (aN hi (aN ha (aN hb (aN (far li) (aN (far la) (aN (far lb) (aN ia (aN ib ab)))))))) ?_;refine call_CSx (post_world (w := ⟨M, Y, up, hand, mail⟩) (m := ⟨true, k, seq, S.Cmd.zero, A⟩) (W0.out.put (v := ⟨M, Y, up, hand, mail⟩) (by omega) ?_ rfl rfl (by repeat (first | exact upd_same _ _ _ | rw [upd_ne _ _ (by omega)])) (fun z hz hzi => by repeat (first | rfl | rw [upd_ne _ _ (by omega)]))) hm sub_back) ?_
 ·exact .cons (.lst (fun h => h) (SubR.refl _)) (.cons (.lst (fun h => h) (SubR.refl _)) (.cons (.refl _) (.cons (.refl _) (.cons (.lst (fun h => h) (SubR.refl _)) (.cons (.lst (fun h => h) (SubR.refl _)) (.cons (.lst (fun h => h) (SubR.refl _)) (SubL.reflF _)))))))
 ·intro h' n' r hW;refine rN ?_;rw [hu.out];exact hW.after (by omega) (fun z hz _ _ _ => by repeat (first | rfl | rw [upd_ne _ _ (by omega)])) la lb li (by omega)
structure Happ (h0 : Heap) (n0 i a b : Nat) (q : S.World × Int) (h : Heap) (n : Nat) (r : AV) : Prop where
 hr : r = Int' q.2
 hn : n0 <= n
 rest : ∀ z, z < n0 -> z ≠ i -> z ≠ a -> z ≠ b -> h z = h0 z
 ok : q.2 = 0 -> WOut h0 n0 i a b q.1 h n
structure HappS (h0 : Heap) (n0 i a b : Nat) (q : S.World × Int) (h : Heap) (n : Nat) (r : AV) : Prop where
 hr : r = Int' q.2
 hn : n0 <= n
 rest : ∀ z, z < n0 -> z ≠ i -> z ≠ a -> z ≠ b -> h z = h0 z
 ok : q.2 = 0 -> ∃ b', WSub h n i a b' q.1 /\ (b' = b \/ n0 <= b')
theorem CS.happ {f : FuncId} {args : List AV} {h0 : Heap} {n0 i a b : Nat} {q : S.World × Int} (hc : CS Tryz.prog f args h0 n0 (HappS h0 n0 i a b q)) : CS Tryz.prog f args h0 n0 (Happ h0 n0 i a b q) := by
 refine hc.sub ?_;rintro h n r ⟨h1, h2, h3, h4⟩;by_cases g : q.2 = 0
 ·obtain ⟨b', W, hb⟩ := h4 g;obtain ⟨h', s1, s2, s3⟩ := W.at';have hr : ∀ z, z < n0 -> z ≠ i -> z ≠ a -> z ≠ b -> h' z = h0 z := fun z z1 z2 z3 z4 => (s3 z z2 z3 (by omega)).trans (h3 z z1 z2 z3 z4)
  exact ⟨h', s1, h1, h2, hr, fun _ => ⟨⟨b', s2, hb⟩, h2, hr⟩⟩
 ·exact ⟨h, HSub.refl h, h1, h2, h3, fun e => absurd e g⟩
theorem Happ.frame {h0 h' : Heap} {n0 i a b : Nat} {q : S.World × Int} (s3 : ∀ z, z ≠ i -> z ≠ a -> z ≠ b -> h' z = h0 z) {h1 : Heap} {n : Nat} {r : AV} (h2 : Happ h' n0 i a b q h1 n r) : Happ h0 n0 i a b q h1 n r :=
 ⟨h2.hr, h2.hn, fun z g1 g2 g3 g4 => (h2.rest z g1 g2 g3 g4).trans (s3 z g2 g3 g4), fun e => (h2.ok e).frame s3⟩
theorem HappS.bad {h0 h : Heap} {n0 n i a b : Nat} {w : S.World} {e : Int} (he : e ≠ 0) (hn : n0 <= n) (hh : ∀ z, z < n0 -> z ≠ i -> z ≠ a -> z ≠ b -> h z = h0 z) : HappS h0 n0 i a b (w, e) h n (Int' e) := ⟨rfl, hn, hh, fun g => absurd g he⟩
theorem world_power (w : S.World) (x : S.Hap) (i a b n0 : Nat) (h0 : Heap) (W : WAt h0 n0 i a b w) (hk : x.kind = 6 \/ x.kind = 7) :
  CS Tryz.prog 79 [.ptr i 10 0 0, .agg (hapC false x)] h0 n0 (Happ h0 n0 i a b (S.power w x)) := by
 refine CS.happ ?_;have W0 := W;obtain ⟨hi, ha, hb, li, la, lb, ia, ib, ab⟩ := W;replace W0 := hid W0;obtain ⟨H, d, up, hand, mail⟩ := w;obtain ⟨nn, rfl⟩ : ∃ nn, n0 = nn + 1 := ⟨n0 - 1, by omega⟩;obtain ⟨kind, who, n, c⟩ := x;simp only at ha hb hk;obtain ⟨u, hu⟩ : ∃ u, u = S.power ⟨H, d, up, hand, mail⟩ ⟨kind, who, n, c⟩ := ⟨_, rfl⟩;rw [<- hu];unfold S.power at hu;simp only at hu;refine CS_inlineG (typesOk _) [(11, [5052])] Tryz.func79 (fun _ _ => by kernel_rfl) rfl (by kernel_rfl) (Nat.le_of_ble_eq_true rfl) ?_;rcases hk with rfl | rfl
 ·cases up with
  | false =>
   rw [if_pos (by simp)] at hu;refine rS (aN hi (aN ha (aN hb (aN (far li) (aN (far la) (aN (far lb) (aN ia (aN ib ab)))))))) ?_;rw [hu];exact .bad (by decide) (by omega) fun z hz _ _ _ => by repeat (first | rfl | rw [upd_ne _ _ (by omega)])
  | true =>
   rw [if_neg (by simp), if_pos rfl] at hu;refine rD (aN hi (aN ha (aN hb (aN (far li) (aN (far la) (aN (far lb) (aN ia (aN ib ab)))))))) hall_New ?_;refine rS (aN hi (aN ha (aN hb (aN (far li) (aN (far la) (aN (far lb) (aN ia (aN ib ab)))))))) ?_;rw [hu];exact ⟨rfl, by omega, fun z hz _ _ _ => by repeat (first | rfl | rw [upd_ne _ _ (by omega)]), fun _ => ⟨b, W0.out.put (by omega) (.cons (.lst (fun h => h) (SubR.refl _)) (.cons (.lst (fun h => h) (SubR.refl _)) (.cons (.refl _) (.cons (.refl _) (.cons (.lst (fun h => h) (SubR.refl _)) (SubL.reflF _)))))) rfl rfl (by repeat (first | exact upd_same _ _ _ | rw [upd_ne _ _ (by omega)])) (fun z hz hzi => by repeat (first | rfl | rw [upd_ne _ _ (by omega)])), .inl rfl⟩⟩
 ·cases up with
  | true =>
   rw [if_pos (by simp)] at hu;refine rS (aN hi (aN ha (aN hb (aN (far li) (aN (far la) (aN (far lb) (aN ia (aN ib ab)))))))) ?_;rw [hu];exact .bad (by decide) (by omega) fun z hz _ _ _ => by repeat (first | rfl | rw [upd_ne _ _ (by omega)])
  | false =>
   rw [if_neg (by simp), if_neg (by simp)] at hu;obtain ⟨⟨X, L, e⟩, hR⟩ : ∃ q, S.recoverDisk d = q := ⟨_, rfl⟩;have cr := hid (recoverT_eq hR);rw [hR] at hu;simp only at hu;clear hR;by_cases he : e = 0
   rotate_left
   ·rw [if_pos he] at hu;refine rD (aN hi (aN ha (aN hb (aN (far li) (aN (far la) (aN (far lb) (aN ia (aN ib ab)))))))) cr.out ?_;refine rS (aN hi (aN ha (aN hb (aN he (aN (far li) (aN (far la) (aN (far lb) (aN ia (aN ib ab))))))))) ?_;rw [hu];exact .bad he (by omega) fun z hz _ _ _ => by repeat (first | rfl | rw [upd_ne _ _ (by omega)])
   subst he;rw [if_neg (by simp)] at hu;obtain ⟨⟨G, f⟩, hG⟩ : ∃ q, S.replay L = q := ⟨_, rfl⟩;have cp := hid (replay1_eq hG);rw [hG] at hu;simp only at hu;clear hG;by_cases hf : f = 0
   rotate_left
   ·rw [if_pos hf] at hu;refine rD (aN hi (aN ha (aN hb (aN (far li) (aN (far la) (aN (far lb) (aN ia (aN ib ab)))))))) cr.out ?_;refine rD (aN hi (aN ha (aN hb (aN (far li) (aN (far la) (aN (far lb) (aN ia (aN ib ab)))))))) cp.out ?_;refine rS (aN hi (aN ha (aN hb (aN hf (aN (far li) (aN (far la) (aN (far lb) (aN ia (aN ib ab))))))))) ?_;rw [hu];exact .bad hf (by omega) fun z hz _ _ _ => by repeat (first | rfl | rw [upd_ne _ _ (by omega)])
   subst hf;rw [if_neg (by simp)] at hu;refine rD (aN hi (aN ha (aN hb (aN (far li) (aN (far la) (aN (far lb) (aN ia (aN ib ab)))))))) cr.out ?_;refine rD (aN hi (aN ha (aN hb (aN (far li) (aN (far la) (aN (far lb) (aN ia (aN ib ab)))))))) cp.out ?_;refine rS (aN hi (aN ha (aN hb (aN (far li) (aN (far la) (aN (far lb) (aN ia (aN ib ab)))))))) ?_;rw [hu];exact ⟨rfl, by omega, fun z hz _ _ _ => by repeat (first | rfl | rw [upd_ne _ _ (by omega)]), fun _ => ⟨b, W0.out.put (by omega) (.cons (.lst (fun h => h) (SubR.refl _)) (.cons (.lst (fun h => h) (SubR.refl _)) (.cons (.refl _) (.cons (.refl _) (.cons (.lst (fun h => h) (SubR.refl _)) (SubL.reflF _)))))) rfl rfl (by repeat (first | exact upd_same _ _ _ | rw [upd_ne _ _ (by omega)])) (fun z hz hzi => by repeat (first | rfl | rw [upd_ne _ _ (by omega)])), .inl rfl⟩⟩
theorem map_eraseIdx {α β : Type} (f : α -> β) : ∀ (l : List α) (k : Nat), (l.map f).eraseIdx k = (l.eraseIdx k).map f
 | [], k => by simp
 | x :: l, 0 => rfl
 | x :: l, k + 1 => by simp [map_eraseIdx f l k]
theorem mail_DeleteM (mail : List S.Mail) (b k n0 : Nat) (e : Int) (he : e = (k : Int) + 1) (h : Heap) (hb : h b = some ⟨78, 11, mail.map (mailC true)⟩) (hk : k < mail.length) :
  CS Tryz.prog 113 [.own b 0 mail.length, Int' k, Int' e] h n0 (fun h' n' r => h' = upd h b (some ⟨78, 11, (mail.eraseIdx k).map (mailC true)⟩) /\ n' = n0 /\ r = .own b 0 (mail.eraseIdx k).length) := by
 have := mail_Delete (mail.map (mailC true)) b k n0 e he h hb (by simpa using hk);rw [List.length_map, map_eraseIdx] at this;have e2 : (mail.eraseIdx k).length = mail.length - 1 := by rw [List.length_eraseIdx, if_pos hk]
 rw [e2];exact this
theorem sub_mail (m : S.Mail) : SubL SubF (mailC true m) (mailC false m) := .cons (.refl _) (.cons (.refl _) (.cons (.refl _) (.cons (.refl _) (.cons (.refl _) (.cons (.refl _) (.cons (.refl _) (.cons (.lst (fun h => by cases h) (SubR.refl _)) (.cons (.refl _) (.cons (.refl _) (.cons (.lst (fun h => by cases h) (SubR.refl _)) (.nil _)))))))))))
theorem asked_world {w : S.World} {m : S.Mail} {i a b n0 : Nat} {h0 : Heap} (W : WSub h0 n0 i a b w) (hm : w.mail.length <= 1000) {cells : List AV} (hs : SubL SubF cells (mailC false m)) :
  CS Tryz.prog 115 [.ptr i 10 0 0, .agg cells] h0 n0 (fun h n r => WOut h0 n0 i a b (S.asked w m) h n) :=
 CS.world (Q := fun h0 h n r => WOut h0 n0 i a b (S.asked w m) h n) (fun h W => world_asked w m i a b n0 h W hm) (fun h' s h1 n r h2 => h2.frame s) W (.cons (.refl _) (.cons (.agg hs) (.nil _)))
theorem HappS.of {h0 h : Heap} {n0 n i a b : Nat} {v : S.World} (h2 : WOut h0 n0 i a b v h n) : HappS h0 n0 i a b (v, 0) h n (Int' 0) := by
 obtain ⟨⟨b', g1, g2⟩, g3, g4⟩ := h2;exact ⟨rfl, g3, g4, fun _ => ⟨b', g1.sub, g2⟩⟩
theorem mail_small {m : S.Mail} (h : S.checkMail m = 0) : m.c.d.length <= 100000 /\ m.a.d.length <= 100000 := by
 unfold S.checkMail at h;split at h
 ·cases h
 split at h
 ·split at h
  ·cases h
  ·rename_i g;have g' : m.c = S.Cmd.zero := Decidable.not_not.1 g;have := checkAnswer_len h;rw [g'];exact ⟨by decide, by omega⟩
 ·split at h
  ·cases h
  ·rename_i g;have g' : m.a = S.Answer.zero := Decidable.not_not.1 g;have := checkCmd_len (checkRec_parts h).2.2.2.2;rw [g'];exact ⟨by simp only at this; omega, by decide⟩
theorem world_hear (w : S.World) (x : S.Hap) (i a b n0 : Nat) (h0 : Heap) (W : WAt h0 n0 i a b w) {l : List S.Rec} (hok : OkW w l) (hk : x.kind = 3 \/ x.kind = 4 \/ x.kind = 5) :
  CS Tryz.prog 78 [.ptr i 10 0 0, .agg (hapC false x)] h0 n0 (Happ h0 n0 i a b (S.hearMail w x)) := by
 refine CS.happ ?_;have W0 := W;obtain ⟨hi, ha, hb, li, la, lb, ia, ib, ab⟩ := W;replace W0 := hid W0;have ai := Ne.symm ia;have bi := Ne.symm ib;have ba := Ne.symm ab;have o1 := hok.hand3;have o2 := hok.mail30;have o3 := hok.mails;clear hok;obtain ⟨H, d, up, hand, mail⟩ := w;obtain ⟨nn, rfl⟩ : ∃ nn, n0 = nn + 1 := ⟨n0 - 1, by omega⟩;obtain ⟨kind, who, n, c⟩ := x;simp only at ha hb hk o1 o2 o3;obtain ⟨u, hu⟩ : ∃ u, u = S.hearMail ⟨H, d, up, hand, mail⟩ ⟨kind, who, n, c⟩ := ⟨_, rfl⟩;rw [<- hu];unfold S.hearMail at hu;simp only at hu;refine CS_inlineZ (typesOk _) [] 5 10 none Tryz.func78 (fun _ _ => by kernel_rfl) rfl (by kernel_rfl) (Nat.le_of_ble_eq_true rfl) ?_;by_cases hn : n < 0
 ·rw [if_pos (.inl hn)] at hu;have hn' : decide (n < 0) = true := by simp [hn]
  refine rS (aN hi (aN ha (aN hb (aN hn' (aN (far li) (aN (far la) (aN (far lb) (aN ia (aN ib (aN ab (aN ai (aN bi ba)))))))))))) ?_;rw [hu];exact .bad (by decide) (by omega) fun z hz _ _ _ => by repeat (first | rfl | rw [upd_ne _ _ (by omega)])
 have hn' : decide (n < 0) = false := by simp [hn]
 by_cases hn2 : (mail.length : Int) <= n
 ·rw [if_pos (.inr hn2)] at hu;have hn2' : decide ((mail.length : Int) <= n) = true := by simp [hn2]
  refine rS (aN hi (aN ha (aN hb (aN hn' (aN hn2' (aN (far li) (aN (far la) (aN (far lb) (aN ia (aN ib (aN ab (aN ai (aN bi ba))))))))))))) ?_;rw [hu];exact .bad (by decide) (by omega) fun z hz _ _ _ => by repeat (first | rfl | rw [upd_ne _ _ (by omega)])
 rw [if_neg (by omega)] at hu;obtain ⟨k, rfl⟩ : ∃ k : Nat, n = k := ⟨n.toNat, by omega⟩;have hkl : k < mail.length := by omega
 have hn2' : decide (mail.length <= k) = false := by simp; omega
 obtain ⟨m, hx⟩ : ∃ m, mail[k]? = some m := ⟨mail[k], by simp⟩;have hg : mail.getD ((k : Int)).toNat default = m := by simp only [Int.toNat_natCast]; exact getD_of hx
 have hm := o3 m (List.mem_of_getElem? hx);simp only [Int.toNat_natCast] at hg;simp only [Int.toNat_natCast, hg] at hu;have hw : IntKind.i64.wrap ((k : Int) + 1) = (k : Int) + 1 := wrap_ok (by omega);clear hn hn2 hg;obtain ⟨back, mw, q, mc, ma⟩ := m;simp only at hu
 have hmwr : back = true -> ∃ (mwk : Nat) (mz : S.Hand), mw = mwk /\ hand[mwk]? = some mz /\ hand.getD mw.toNat S.Hand.zero = mz := fun _ => by
  have h1 : 0 <= mw /\ mw < 3 := by
   unfold S.checkMail at hm;split at hm
   ·cases hm
   ·rename_i g; simp only at g; omega
  obtain ⟨mwk, rfl⟩ : ∃ k : Nat, mw = k := ⟨mw.toNat, by omega⟩;obtain ⟨mz, hz⟩ : ∃ z, hand[mwk]? = some z := ⟨hand[mwk]'(by omega), by simp⟩;exact ⟨mwk, mz, rfl, hz, by simp only [Int.toNat_natCast]; exact getD_of hz⟩
 have hlen : mc.d.length <= 100000 /\ ma.d.length <= 100000 := mail_small hm;replace hmwr := hid hmwr;clear hm o3;rcases hk with rfl | rfl | rfl
 ·simp only [Int.reduceEq, ne_eq, not_true_eq_false, not_false_eq_true, if_true, if_false] at hu;clear hlen;cases back with
  | true =>
   rw [if_pos rfl] at hu;obtain ⟨mwk, mz, hmw, hmz, hgz⟩ := hmwr.out rfl;have hml : mwk < hand.length := (List.getElem?_eq_some_iff.1 hmz).1;subst hmw;rw [hgz] at hu;obtain ⟨⟨Z, e⟩, hH⟩ : ∃ r, S.hear mz q ma = r := ⟨_, rfl⟩;have ch := hid (hear_eq hH);rw [hH] at hu;simp only at hu;clear hH;by_cases he : e = 0
   rotate_left
   ·rw [if_pos he] at hu;refine rS (aN hi (aN ha (aN hb (aN hn' (aN hn2' (aN hx (aN hkl (aN hw (aN (far li) (aN (far la) (aN (far lb) (aN ia (aN ib (aN ab (aN ai (aN bi ba)))))))))))))))) ?_;refine call_CSx (mail_DeleteM mail b k _ _ rfl _ (by repeat (first | exact upd_same _ _ _ | exact hi | exact ha | exact hb | rw [upd_ne _ _ (by omega)])) hkl) ?_;rintro h' n' r ⟨rfl, rfl, rfl⟩;refine rD (aN hi (aN ha (aN hb (aN hmz (aN hml (aN hx (aN hkl (aN (far li) (aN (far la) (aN (far lb) (aN ia (aN ib (aN ab (aN ai (aN bi ba))))))))))))))) ch.out ?_;refine rS (aN hi (aN ha (aN hb (aN he (aN hmz (aN hml (aN hx (aN hkl (aN (far li) (aN (far la) (aN (far lb) (aN ia (aN ib (aN ab (aN ai (aN bi ba)))))))))))))))) ?_;rw [hu];exact .bad he (by omega) (fun z hz _ _ _ => by repeat (first | rfl | rw [upd_ne _ _ (by omega)]))
   subst he;rw [if_neg (by simp)] at hu;refine rS (aN hi (aN ha (aN hb (aN hn' (aN hn2' (aN hx (aN hkl (aN hw (aN (far li) (aN (far la) (aN (far lb) (aN ia (aN ib (aN ab (aN ai (aN bi ba)))))))))))))))) ?_;refine call_CSx (mail_DeleteM mail b k _ _ rfl _ (by repeat (first | exact upd_same _ _ _ | exact hi | exact ha | exact hb | rw [upd_ne _ _ (by omega)])) hkl) ?_;rintro h' n' r ⟨rfl, rfl, rfl⟩;refine rD (aN hi (aN ha (aN hb (aN hmz (aN hml (aN hx (aN hkl (aN (far li) (aN (far la) (aN (far lb) (aN ia (aN ib (aN ab (aN ai (aN bi ba))))))))))))))) ch.out ?_;refine rS (aN hi (aN ha (aN hb (aN hmz (aN hml (aN hx (aN hkl (aN (far li) (aN (far la) (aN (far lb) (aN ia (aN ib (aN ab (aN ai (aN bi ba))))))))))))))) ?_;rw [hu];refine ⟨rfl, by omega, (fun z hz _ _ _ => by repeat (first | rfl | rw [upd_ne _ _ (by omega)])), fun _ => ⟨b, ⟨⟨_, by repeat (first | exact upd_same _ _ _ | exact hi | exact ha | exact hb | rw [upd_ne _ _ (by omega)]), by simp only [ownW, List.length_set]; exact SubL.reflF _⟩, ⟨_, by repeat (first | exact upd_same _ _ _ | exact hi | exact ha | exact hb | rw [upd_ne _ _ (by omega)]), ?_⟩, ⟨_, by repeat (first | exact upd_same _ _ _ | exact hi | exact ha | exact hb | rw [upd_ne _ _ (by omega)]), SubRow.refl _⟩, by omega, by omega, by omega, ia, ib, ab⟩, .inl rfl⟩⟩
   ·simp only [Int.toNat_natCast, List.map_set];exact (SubRow.refl _).set (SubL.reflF _)
  | false =>
   rw [if_neg (by simp)] at hu;cases up with
   | false =>
    rw [if_pos rfl] at hu;refine rS (aN hi (aN ha (aN hb (aN hn' (aN hn2' (aN hx (aN hkl (aN hw (aN (far li) (aN (far la) (aN (far lb) (aN ia (aN ib (aN ab (aN ai (aN bi ba)))))))))))))))) ?_;refine call_CSx (mail_DeleteM mail b k _ _ rfl _ (by repeat (first | exact upd_same _ _ _ | exact hi | exact ha | exact hb | rw [upd_ne _ _ (by omega)])) hkl) ?_;rintro h' n' r ⟨rfl, rfl, rfl⟩;refine rS (aN hi (aN ha (aN hb (aN hx (aN hkl (aN (far li) (aN (far la) (aN (far lb) (aN ia (aN ib (aN ab (aN ai (aN bi ba))))))))))))) ?_;rw [hu];exact .bad (by decide) (by omega) (fun z hz _ _ _ => by repeat (first | rfl | rw [upd_ne _ _ (by omega)]))
   | true =>
    rw [if_neg (by simp)] at hu;refine rS (aN hi (aN ha (aN hb (aN hn' (aN hn2' (aN hx (aN hkl (aN hw (aN (far li) (aN (far la) (aN (far lb) (aN ia (aN ib (aN ab (aN ai (aN bi ba)))))))))))))))) ?_;refine call_CSx (mail_DeleteM mail b k _ _ rfl _ (by repeat (first | exact upd_same _ _ _ | exact hi | exact ha | exact hb | rw [upd_ne _ _ (by omega)])) hkl) ?_;rintro h' n' r ⟨rfl, rfl, rfl⟩;refine rS (aN hi (aN ha (aN hb (aN hx (aN hkl (aN (far li) (aN (far la) (aN (far lb) (aN ia (aN ib (aN ab (aN ai (aN bi ba))))))))))))) ?_;refine call_CSx (asked_world (w := ⟨H, d, true, hand, mail.eraseIdx k⟩) (m := ⟨false, mw, q, mc, ma⟩) ⟨⟨_, by repeat (first | exact upd_same _ _ _ | exact hi | exact ha | exact hb | rw [upd_ne _ _ (by omega)]), SubL.reflF _⟩, ⟨_, by repeat (first | exact upd_same _ _ _ | exact hi | exact ha | exact hb | rw [upd_ne _ _ (by omega)]), SubRow.refl _⟩, ⟨_, by repeat (first | exact upd_same _ _ _ | exact hi | exact ha | exact hb | rw [upd_ne _ _ (by omega)]), SubRow.refl _⟩, by omega, by omega, by omega, ia, ib, ab⟩ (by simp only; first | omega | (rw [List.length_eraseIdx, if_pos hkl]; omega)) (sub_mail _)) ?_;intro h' n' r hW;refine rN ?_;rw [hu];exact .of (hW.after (by omega) (fun z hz _ _ _ => by repeat (first | rfl | rw [upd_ne _ _ (by omega)])) la lb li (by omega))
 ·simp only [Int.reduceEq, ne_eq, not_true_eq_false, not_false_eq_true, if_true, if_false] at hu;have cc := hid (cmd_Copy mc (by omega));have ca := hid (desk_CopyAnswer ma (by omega));clear hlen;cases back with
  | true =>
   rw [if_pos rfl] at hu;obtain ⟨mwk, mz, hmw, hmz, hgz⟩ := hmwr.out rfl;have hml : mwk < hand.length := (List.getElem?_eq_some_iff.1 hmz).1;subst hmw;rw [hgz] at hu;obtain ⟨⟨Z, e⟩, hH⟩ : ∃ r, S.hear mz q ma = r := ⟨_, rfl⟩;have ch := hid (hear_eq hH);rw [hH] at hu;simp only at hu;clear hH;by_cases he : e = 0
   rotate_left
   ·rw [if_pos he] at hu;refine rD (aN hi (aN ha (aN hb (aN hn' (aN hn2' (aN hx (aN hkl (aN hw (aN (far li) (aN (far la) (aN (far lb) (aN ia (aN ib (aN ab (aN ai (aN bi ba)))))))))))))))) cc.out ?_;refine rD (aN hi (aN ha (aN hb (aN hn' (aN hn2' (aN hx (aN hkl (aN hw (aN (far li) (aN (far la) (aN (far lb) (aN ia (aN ib (aN ab (aN ai (aN bi ba)))))))))))))))) ca.out ?_;refine rD (aN hi (aN ha (aN hb (aN hmz (aN hml (aN hx (aN hkl (aN (far li) (aN (far la) (aN (far lb) (aN ia (aN ib (aN ab (aN ai (aN bi ba))))))))))))))) ch.out ?_;refine rS (aN hi (aN ha (aN hb (aN he (aN hmz (aN hml (aN hx (aN hkl (aN (far li) (aN (far la) (aN (far lb) (aN ia (aN ib (aN ab (aN ai (aN bi ba)))))))))))))))) ?_;rw [hu];exact .bad he (by omega) (fun z hz _ _ _ => by repeat (first | rfl | rw [upd_ne _ _ (by omega)]))
   subst he;rw [if_neg (by simp)] at hu;refine rD (aN hi (aN ha (aN hb (aN hn' (aN hn2' (aN hx (aN hkl (aN hw (aN (far li) (aN (far la) (aN (far lb) (aN ia (aN ib (aN ab (aN ai (aN bi ba)))))))))))))))) cc.out ?_;refine rD (aN hi (aN ha (aN hb (aN hn' (aN hn2' (aN hx (aN hkl (aN hw (aN (far li) (aN (far la) (aN (far lb) (aN ia (aN ib (aN ab (aN ai (aN bi ba)))))))))))))))) ca.out ?_;refine rD (aN hi (aN ha (aN hb (aN hmz (aN hml (aN hx (aN hkl (aN (far li) (aN (far la) (aN (far lb) (aN ia (aN ib (aN ab (aN ai (aN bi ba))))))))))))))) ch.out ?_;refine rS (aN hi (aN ha (aN hb (aN hmz (aN hml (aN hx (aN hkl (aN (far li) (aN (far la) (aN (far lb) (aN ia (aN ib (aN ab (aN ai (aN bi ba))))))))))))))) ?_;rw [hu];refine ⟨rfl, by omega, (fun z hz _ _ _ => by repeat (first | rfl | rw [upd_ne _ _ (by omega)])), fun _ => ⟨b, ⟨⟨_, by repeat (first | exact upd_same _ _ _ | exact hi | exact ha | exact hb | rw [upd_ne _ _ (by omega)]), by simp only [ownW, List.length_set]; exact SubL.reflF _⟩, ⟨_, by repeat (first | exact upd_same _ _ _ | exact hi | exact ha | exact hb | rw [upd_ne _ _ (by omega)]), ?_⟩, ⟨_, by repeat (first | exact upd_same _ _ _ | exact hi | exact ha | exact hb | rw [upd_ne _ _ (by omega)]), SubRow.refl _⟩, by omega, by omega, by omega, ia, ib, ab⟩, .inl rfl⟩⟩
   ·simp only [Int.toNat_natCast, List.map_set];exact (SubRow.refl _).set (SubL.reflF _)
  | false =>
   rw [if_neg (by simp)] at hu;cases up with
   | false =>
    rw [if_pos rfl] at hu;refine rD (aN hi (aN ha (aN hb (aN hn' (aN hn2' (aN hx (aN hkl (aN hw (aN (far li) (aN (far la) (aN (far lb) (aN ia (aN ib (aN ab (aN ai (aN bi ba)))))))))))))))) cc.out ?_;refine rD (aN hi (aN ha (aN hb (aN hn' (aN hn2' (aN hx (aN hkl (aN hw (aN (far li) (aN (far la) (aN (far lb) (aN ia (aN ib (aN ab (aN ai (aN bi ba)))))))))))))))) ca.out ?_;refine rS (aN hi (aN ha (aN hb (aN hx (aN hkl (aN (far li) (aN (far la) (aN (far lb) (aN ia (aN ib (aN ab (aN ai (aN bi ba))))))))))))) ?_;rw [hu];exact .bad (by decide) (by omega) (fun z hz _ _ _ => by repeat (first | rfl | rw [upd_ne _ _ (by omega)]))
   | true =>
    rw [if_neg (by simp)] at hu;refine rD (aN hi (aN ha (aN hb (aN hn' (aN hn2' (aN hx (aN hkl (aN hw (aN (far li) (aN (far la) (aN (far lb) (aN ia (aN ib (aN ab (aN ai (aN bi ba)))))))))))))))) cc.out ?_;refine rD (aN hi (aN ha (aN hb (aN hn' (aN hn2' (aN hx (aN hkl (aN hw (aN (far li) (aN (far la) (aN (far lb) (aN ia (aN ib (aN ab (aN ai (aN bi ba)))))))))))))))) ca.out ?_;refine rS (aN hi (aN ha (aN hb (aN hx (aN hkl (aN (far li) (aN (far la) (aN (far lb) (aN ia (aN ib (aN ab (aN ai (aN bi ba))))))))))))) ?_;refine call_CSx (asked_world (w := ⟨H, d, true, hand, mail⟩) (m := ⟨false, mw, q, mc, ma⟩) ⟨⟨_, by repeat (first | exact upd_same _ _ _ | exact hi | exact ha | exact hb | rw [upd_ne _ _ (by omega)]), SubL.reflF _⟩, ⟨_, by repeat (first | exact upd_same _ _ _ | exact hi | exact ha | exact hb | rw [upd_ne _ _ (by omega)]), SubRow.refl _⟩, ⟨_, by repeat (first | exact upd_same _ _ _ | exact hi | exact ha | exact hb | rw [upd_ne _ _ (by omega)]), SubRow.refl _⟩, by omega, by omega, by omega, ia, ib, ab⟩ (by simp only; first | omega | (rw [List.length_eraseIdx, if_pos hkl]; omega)) (sub_mail _)) ?_;intro h' n' r hW;refine rN ?_;rw [hu];exact .of (hW.after (by omega) (fun z hz _ _ _ => by repeat (first | rfl | rw [upd_ne _ _ (by omega)])) la lb li (by omega))
 ·simp only [Int.reduceEq, ne_eq, not_true_eq_false, not_false_eq_true, if_true, if_false] at hu;clear hlen;refine rS (aN hi (aN ha (aN hb (aN hn' (aN hn2' (aN hx (aN hkl (aN hw (aN (far li) (aN (far la) (aN (far lb) (aN ia (aN ib (aN ab (aN ai (aN bi ba)))))))))))))))) ?_;refine call_CSx (mail_DeleteM mail b k _ _ rfl _ (by repeat (first | exact upd_same _ _ _ | exact hi | exact ha | exact hb | rw [upd_ne _ _ (by omega)])) hkl) ?_;rintro h' n' r ⟨rfl, rfl, rfl⟩;refine rS (aN hi (aN ha (aN hb (aN hx (aN hkl (aN (far li) (aN (far la) (aN (far lb) (aN ia (aN ib (aN ab (aN ai (aN bi ba))))))))))))) ?_;rw [hu];exact ⟨rfl, by omega, (fun z hz _ _ _ => by repeat (first | rfl | rw [upd_ne _ _ (by omega)])), fun _ => ⟨b, ⟨⟨_, by repeat (first | exact upd_same _ _ _ | exact hi | exact ha | exact hb | rw [upd_ne _ _ (by omega)]), SubL.reflF _⟩, ⟨_, by repeat (first | exact upd_same _ _ _ | exact hi | exact ha | exact hb | rw [upd_ne _ _ (by omega)]), SubRow.refl _⟩, ⟨_, by repeat (first | exact upd_same _ _ _ | exact hi | exact ha | exact hb | rw [upd_ne _ _ (by omega)]), SubRow.refl _⟩, by omega, by omega, by omega, ia, ib, ab⟩, .inl rfl⟩⟩
theorem sub_ask {w q : Int} {c : S.Cmd} : SubL SubF [.at (.bool false), Int' w, Int' q, Int' c.kind, Int' c.z, Int' c.n, Int' c.pos, .lst true 1 (I c.d), Int' 0, Int' 0, .nl] (mailC true ⟨false, w, q, c, S.Answer.zero⟩) :=
 .cons (.refl _) (.cons (.refl _) (.cons (.refl _) (.cons (.refl _) (.cons (.refl _) (.cons (.refl _) (.cons (.refl _) (.cons (.lst (fun h => h) (SubR.refl _)) (.cons (.refl _) (.cons (.refl _) (.cons .nl (.nil _)))))))))))
theorem ask_small {x Z : S.Hand} {c : S.Cmd} {e : Int} (hc : S.checkHand x = 0) (h : S.ask x c = (Z, e)) : e = 0 -> Z.c.d.length <= 100000 := by
 intro he;subst he;unfold S.ask at h;split at h
 ·rename_i g; simp only [Prod.mk.injEq] at h; exact absurd h.2 g
 split at h
 ·rename_i g; simp only [Prod.mk.injEq] at h; exact absurd h.2 g
 rename_i g1 g2;split at h
 ·simp only [Prod.mk.injEq] at h; exact absurd h.2 (by decide)
 split at h
 ·simp only [Prod.mk.injEq] at h; exact absurd h.2 (by decide)
 simp only [Prod.mk.injEq, and_true] at h;subst h;have := checkCmd_len (Decidable.not_not.1 g2);simp only;omega
theorem world_happen (w : S.World) (x : S.Hap) (i a b n0 : Nat) (h0 : Heap) (W : WAt h0 n0 i a b w) {l : List S.Rec} (hok : OkW w l) :
  CS Tryz.prog 32 [.ptr i 10 0 0, .agg (hapC false x)] h0 n0 (Happ h0 n0 i a b (S.happen w x)) := by
 refine CS.happ ?_;have W0 := W;obtain ⟨hi, ha, hb, li, la, lb, ia, ib, ab⟩ := W;replace W0 := hid W0;have ai := Ne.symm ia;have bi := Ne.symm ib;have ba := Ne.symm ab;have o1 := hok.hand3;have o2 := hok.mail30;have o3 := hok.hands;replace hok := hid hok;obtain ⟨H, d, up, hand, mail⟩ := w;obtain ⟨nn, rfl⟩ : ∃ nn, n0 = nn + 1 := ⟨n0 - 1, by omega⟩;obtain ⟨kind, who, n, c⟩ := x;simp only at ha hb o1 o2 o3;obtain ⟨u, hu⟩ : ∃ u, u = S.happen ⟨H, d, up, hand, mail⟩ ⟨kind, who, n, c⟩ := ⟨_, rfl⟩;rw [<- hu];unfold S.happen at hu;simp only at hu;refine CS_inlineZ (typesOk _) [] 23 9 none Tryz.func32 (fun _ _ => by kernel_rfl) rfl (by kernel_rfl) (Nat.le_of_ble_eq_true rfl) ?_;by_cases k1 : kind = 3 \/ kind = 4 \/ kind = 5
 ·rw [if_pos k1] at hu;have k1' := hid k1;rcases k1 with rfl | rfl | rfl <;> simp -dsimp -implicitDefEqProofs [-getElem?_pos, -List.map_append, -List.map_set, List.getElem?_cons_zero, List.getElem?_cons_succ, hi, ha, hb, far li, far la, far lb, ia, ib, ab, ai, bi, ba]
  ·refine call_CSx (world_hear ⟨H, d, up, hand, mail⟩ ⟨3, who, n, c⟩ i a b _ _ (W0.out.up (by omega) fun z hz => by repeat (first | rfl | rw [upd_ne _ _ (by omega)])) hok.out k1'.out) ?_;intro h' n' r hW;obtain ⟨hr1, hr2, hr3, hr4⟩ := hW;subst hr1;refine rN ?_;rw [hu]
   exact ⟨rfl, by omega, fun z hz z2 z3 z4 => (hr3 z (by omega) z2 z3 z4).trans (by repeat (first | rfl | rw [upd_ne _ _ (by omega)])), fun e => by
    obtain ⟨⟨b', g1, g2⟩, g3, g4⟩ := hr4 e;obtain ⟨q1, q2, q3, q4, q5, q6, q7, q8, q9⟩ := g1
    exact ⟨b', WAt.sub ⟨q1, q2, q3, by omega, by omega, by omega, q7, q8, q9⟩, by omega⟩⟩
  ·refine call_CSx (world_hear ⟨H, d, up, hand, mail⟩ ⟨4, who, n, c⟩ i a b _ _ (W0.out.up (by omega) fun z hz => by repeat (first | rfl | rw [upd_ne _ _ (by omega)])) hok.out k1'.out) ?_;intro h' n' r hW;obtain ⟨hr1, hr2, hr3, hr4⟩ := hW;subst hr1;refine rN ?_;rw [hu]
   exact ⟨rfl, by omega, fun z hz z2 z3 z4 => (hr3 z (by omega) z2 z3 z4).trans (by repeat (first | rfl | rw [upd_ne _ _ (by omega)])), fun e => by
    obtain ⟨⟨b', g1, g2⟩, g3, g4⟩ := hr4 e;obtain ⟨q1, q2, q3, q4, q5, q6, q7, q8, q9⟩ := g1
    exact ⟨b', WAt.sub ⟨q1, q2, q3, by omega, by omega, by omega, q7, q8, q9⟩, by omega⟩⟩
  ·refine call_CSx (world_hear ⟨H, d, up, hand, mail⟩ ⟨5, who, n, c⟩ i a b _ _ (W0.out.up (by omega) fun z hz => by repeat (first | rfl | rw [upd_ne _ _ (by omega)])) hok.out k1'.out) ?_;intro h' n' r hW;obtain ⟨hr1, hr2, hr3, hr4⟩ := hW;subst hr1;refine rN ?_;rw [hu]
   exact ⟨rfl, by omega, fun z hz z2 z3 z4 => (hr3 z (by omega) z2 z3 z4).trans (by repeat (first | rfl | rw [upd_ne _ _ (by omega)])), fun e => by
    obtain ⟨⟨b', g1, g2⟩, g3, g4⟩ := hr4 e;obtain ⟨q1, q2, q3, q4, q5, q6, q7, q8, q9⟩ := g1
    exact ⟨b', WAt.sub ⟨q1, q2, q3, by omega, by omega, by omega, q7, q8, q9⟩, by omega⟩⟩
 rw [if_neg k1] at hu;by_cases k2 : kind = 6 \/ kind = 7
 ·rw [if_pos k2] at hu;have k2' := hid k2;rcases k2 with rfl | rfl <;> simp -dsimp -implicitDefEqProofs [-getElem?_pos, -List.map_append, -List.map_set, List.getElem?_cons_zero, List.getElem?_cons_succ, hi, ha, hb, far li, far la, far lb, ia, ib, ab, ai, bi, ba]
  ·refine call_CSx (world_power ⟨H, d, up, hand, mail⟩ ⟨6, who, n, c⟩ i a b _ _ (W0.out.up (by omega) fun z hz => by repeat (first | rfl | rw [upd_ne _ _ (by omega)])) k2'.out) ?_;intro h' n' r hW;obtain ⟨hr1, hr2, hr3, hr4⟩ := hW;subst hr1;refine rN ?_;rw [hu]
   exact ⟨rfl, by omega, fun z hz z2 z3 z4 => (hr3 z (by omega) z2 z3 z4).trans (by repeat (first | rfl | rw [upd_ne _ _ (by omega)])), fun e => by
    obtain ⟨⟨b', g1, g2⟩, g3, g4⟩ := hr4 e;obtain ⟨q1, q2, q3, q4, q5, q6, q7, q8, q9⟩ := g1
    exact ⟨b', WAt.sub ⟨q1, q2, q3, by omega, by omega, by omega, q7, q8, q9⟩, by omega⟩⟩
  ·refine call_CSx (world_power ⟨H, d, up, hand, mail⟩ ⟨7, who, n, c⟩ i a b _ _ (W0.out.up (by omega) fun z hz => by repeat (first | rfl | rw [upd_ne _ _ (by omega)])) k2'.out) ?_;intro h' n' r hW;obtain ⟨hr1, hr2, hr3, hr4⟩ := hW;subst hr1;refine rN ?_;rw [hu]
   exact ⟨rfl, by omega, fun z hz z2 z3 z4 => (hr3 z (by omega) z2 z3 z4).trans (by repeat (first | rfl | rw [upd_ne _ _ (by omega)])), fun e => by
    obtain ⟨⟨b', g1, g2⟩, g3, g4⟩ := hr4 e;obtain ⟨q1, q2, q3, q4, q5, q6, q7, q8, q9⟩ := g1
    exact ⟨b', WAt.sub ⟨q1, q2, q3, by omega, by omega, by omega, q7, q8, q9⟩, by omega⟩⟩
 rw [if_neg k2] at hu;by_cases k3 : kind ≠ 1 /\ kind ≠ 2
 ·rw [if_pos k3] at hu;have c1 : decide (kind = 1) = false := by simp; omega
  have c2 : decide (kind = 2) = false := by simp; omega
  have c3 : decide (kind = 3) = false := by simp; omega
  have c4 : decide (kind = 4) = false := by simp; omega
  have c5 : decide (kind = 5) = false := by simp; omega
  have c6 : decide (kind = 6) = false := by simp; omega
  have c7 : decide (kind = 7) = false := by simp; omega
  refine rS (aN c1 (aN c2 (aN c3 (aN c4 (aN c5 (aN c6 (aN c7 (aN hi (aN ha (aN hb (aN (far li) (aN (far la) (aN (far lb) (aN ia (aN ib (aN ab (aN ai (aN bi ba)))))))))))))))))) ?_;rw [hu];exact .bad (by decide) (by omega) (fun z hz _ _ _ => by repeat (first | rfl | rw [upd_ne _ _ (by omega)]))
 rw [if_neg k3] at hu;have k4 : kind = 1 \/ kind = 2 := by omega
 clear k1 k2 k3;by_cases w1 : who < 0
 ·rw [if_pos (.inl w1)] at hu;have w1' : decide (who < 0) = true := by simp [w1]
  rcases k4 with rfl | rfl
  all_goals
   refine rS (aN w1' (aN hi (aN ha (aN hb (aN (far li) (aN (far la) (aN (far lb) (aN ia (aN ib (aN ab (aN ai (aN bi ba)))))))))))) ?_;rw [hu];exact .bad (by decide) (by omega) (fun z hz _ _ _ => by repeat (first | rfl | rw [upd_ne _ _ (by omega)]))
 have w1' : decide (who < 0) = false := by simp [w1]
 by_cases w2 : (hand.length : Int) <= who
 ·rw [if_pos (.inr w2)] at hu;have w2' : decide ((hand.length : Int) <= who) = true := by simp [w2]
  rcases k4 with rfl | rfl
  all_goals
   refine rS (aN w1' (aN w2' (aN hi (aN ha (aN hb (aN (far li) (aN (far la) (aN (far lb) (aN ia (aN ib (aN ab (aN ai (aN bi ba))))))))))))) ?_;rw [hu];exact .bad (by decide) (by omega) (fun z hz _ _ _ => by repeat (first | rfl | rw [upd_ne _ _ (by omega)]))
 rw [if_neg (by omega)] at hu;obtain ⟨k, rfl⟩ : ∃ k : Nat, who = k := ⟨who.toNat, by omega⟩;have hkl : k < hand.length := by omega
 have w2' : decide (hand.length <= k) = false := by simp; omega
 obtain ⟨x, hx⟩ : ∃ x, hand[k]? = some x := ⟨hand[k], by simp⟩;have hg : hand.getD ((k : Int)).toNat S.Hand.zero = x := by simp only [Int.toNat_natCast]; exact getD_of hx
 have hc := o3 x (List.mem_of_getElem? hx);rw [hg] at hu;clear w1 w2 hg o3 hok;rcases k4 with rfl | rfl
 ·simp only [if_true] at hu;obtain ⟨⟨Z, e⟩, hA⟩ : ∃ q, S.ask x c = q := ⟨_, rfl⟩;have ca := hid (ask_eq hA);have hZ := ask_small hc hA;rw [hA] at hu;simp only at hu;clear hA hc;by_cases he : e = 0
  rotate_left
  ·rw [if_pos he] at hu;refine rD (aN w1' (aN w2' (aN hx (aN hkl (aN hi (aN ha (aN hb (aN (far li) (aN (far la) (aN (far lb) (aN ia (aN ib (aN ab (aN ai (aN bi ba))))))))))))))) ca.out ?_;refine rS (aN w1' (aN w2' (aN hx (aN hkl (aN he (aN hi (aN ha (aN hb (aN (far li) (aN (far la) (aN (far lb) (aN ia (aN ib (aN ab (aN ai (aN bi ba)))))))))))))))) ?_;rw [hu];exact .bad he (by omega) (fun z hz _ _ _ => by repeat (first | rfl | rw [upd_ne _ _ (by omega)]))
  subst he;rw [if_neg (by simp)] at hu;have cc := hid (cmd_Copy Z.c (by have := hZ rfl; omega));clear hZ;refine rD (aN w1' (aN w2' (aN hx (aN hkl (aN hi (aN ha (aN hb (aN (far li) (aN (far la) (aN (far lb) (aN ia (aN ib (aN ab (aN ai (aN bi ba))))))))))))))) ca.out ?_;refine rD (aN w1' (aN w2' (aN hx (aN hkl (aN hi (aN ha (aN hb (aN (far li) (aN (far la) (aN (far lb) (aN ia (aN ib (aN ab (aN ai (aN bi ba))))))))))))))) cc.out ?_;refine rS (aN w1' (aN w2' (aN hx (aN hkl (aN hi (aN ha (aN hb (aN (far li) (aN (far la) (aN (far lb) (aN ia (aN ib (aN ab (aN ai (aN bi ba))))))))))))))) ?_;refine call_CSx (post_world (w := ⟨H, d, up, hand.set k Z, mail⟩) (m := ⟨false, k, Z.seq, Z.c, S.Answer.zero⟩) ⟨⟨_, by repeat (first | exact upd_same _ _ _ | exact hi | exact ha | exact hb | rw [upd_ne _ _ (by omega)]), by simp only [ownW, List.length_set]; exact SubL.reflF _⟩, ⟨_, by repeat (first | exact upd_same _ _ _ | exact hi | exact ha | exact hb | rw [upd_ne _ _ (by omega)]), by simp only [List.map_set]; exact (SubRow.refl _).set (SubL.reflF _)⟩, ⟨_, by repeat (first | exact upd_same _ _ _ | exact hi | exact ha | exact hb | rw [upd_ne _ _ (by omega)]), SubRow.refl _⟩, by omega, by omega, by omega, ia, ib, ab⟩ (by simp only; omega) sub_ask) ?_;intro h' n' r hW;refine rN ?_;rw [hu];simp only [Int.toNat_natCast];exact .of (hW.after (by omega) (fun z hz _ _ _ => by repeat (first | rfl | rw [upd_ne _ _ (by omega)])) la lb li (by omega))
 ·simp only [show ((2 : Int) = 1) = False from by simp, if_false] at hu;by_cases hw : x.waits = false
  ·rw [if_pos hw] at hu;refine rS (aN w1' (aN w2' (aN hx (aN hkl (aN hw (aN hi (aN ha (aN hb (aN (far li) (aN (far la) (aN (far lb) (aN ia (aN ib (aN ab (aN ai (aN bi ba)))))))))))))))) ?_;rw [hu];exact .bad (by decide) (by omega) (fun z hz _ _ _ => by repeat (first | rfl | rw [upd_ne _ _ (by omega)]))
  ·rw [if_neg hw] at hu;have hw' : x.waits = true := by simpa using hw
   have hs := (small_of_check hc).1;have cc := hid (cmd_Copy x.c (by omega));clear hs hw hc;refine rD (aN w1' (aN w2' (aN hx (aN hkl (aN hw' (aN hi (aN ha (aN hb (aN (far li) (aN (far la) (aN (far lb) (aN ia (aN ib (aN ab (aN ai (aN bi ba)))))))))))))))) cc.out ?_;refine rS (aN w1' (aN w2' (aN hx (aN hkl (aN hw' (aN hi (aN ha (aN hb (aN (far li) (aN (far la) (aN (far lb) (aN ia (aN ib (aN ab (aN ai (aN bi ba)))))))))))))))) ?_;refine call_CSx (post_world (w := ⟨H, d, up, hand, mail⟩) (m := ⟨false, k, x.seq, x.c, S.Answer.zero⟩) ⟨⟨_, by repeat (first | exact upd_same _ _ _ | exact hi | exact ha | exact hb | rw [upd_ne _ _ (by omega)]), SubL.reflF _⟩, ⟨_, by repeat (first | exact upd_same _ _ _ | exact hi | exact ha | exact hb | rw [upd_ne _ _ (by omega)]), SubRow.refl _⟩, ⟨_, by repeat (first | exact upd_same _ _ _ | exact hi | exact ha | exact hb | rw [upd_ne _ _ (by omega)]), SubRow.refl _⟩, by omega, by omega, by omega, ia, ib, ab⟩ (by simp only; omega) sub_ask) ?_;intro h' n' r hW;refine rN ?_;rw [hu];exact .of (hW.after (by omega) (fun z hz _ _ _ => by repeat (first | rfl | rw [upd_ne _ _ (by omega)])) la lb li (by omega))
theorem hall_small {h : S.Hall} (e : S.checkHall h = 0) : Small h.d /\ h.last.length <= 100000 /\ ∀ x, x ∈ h.last -> x.a.d.length <= 100000 := by
 obtain ⟨d0, l3, lk⟩ := checkHall_parts e;exact ⟨(small_of d0).1, by omega, fun x hx => checkAnswer_len5 (checkLast_parts (lk x hx)).2.2.1⟩
theorem okW_hall {w : S.World} {l : List S.Rec} (h : OkW w l) : S.checkHall w.h = 0 := by
 cases hu : w.up with
 | true => exact replay_right (S.replay_ok (h.up hu).2).2
 | false => rw [h.down hu]; exact new_right
theorem okW_small {w : S.World} {l : List S.Rec} (h : OkW w l) : SmallW w := by
 obtain ⟨h1, h2, h3⟩ := hall_small (okW_hall h);have := h.room;exact ⟨h1, h2, h3, by omega, by omega, by have := h.hand3; omega, fun x hx => small_of_check (h.hands x hx), by have := h.mail30; omega, fun m hm => mail_small (h.mails m hm)⟩
theorem happen_world {w : S.World} {x : S.Hap} {i a b n0 : Nat} {h0 : Heap} {l : List S.Rec} (hok : OkW w l) (W : WSub h0 n0 i a b w) {cells : List AV} (hs : SubL SubF cells (hapC false x)) :
  CS Tryz.prog 32 [.ptr i 10 0 0, .agg cells] h0 n0 (Happ h0 n0 i a b (S.happen w x)) :=
 CS.world (Q := fun h0 h n r => Happ h0 n0 i a b (S.happen w x) h n r) (fun h W => world_happen w x i a b n0 h W hok) (fun h' s h1 n r h2 => h2.frame s) W (.cons (.refl _) (.cons (.agg hs) (.nil _)))
theorem OutL.ownT {h : Heap} {i n : Nat} {ty : TypeId} {s : Nat} {rows rows' : List (List AV)} {cs ts : List AV} (hi : h i = some ⟨ty, s, rows⟩) (hn : n = rows.length) (hm : rows.mapM (fun (r : List AV) => r.mapM (leafP h [] 2)) = some rows') (hf : (rows.all fun r => r.all freshCell) = true) (g : OutL h cs ts) : OutL h (.own i 0 n :: cs) (.lst true s rows' :: ts) :=
 .cons (own_outR hi hn hm hf) (.lst (fun h => h) (SubR.refl _)) g
theorem out_world {h : Heap} {a b : Nat} {w : S.World} (ha : h a = some ⟨85, 8, w.hand.map (handC true)⟩) (hb : h b = some ⟨78, 11, w.mail.map (mailC true)⟩) : OutL h (ownW true w a b) (worldC true w) :=
 .lst (fun h => h) (.lst (fun h => h) (.at (.at (.lst (fun h => h) (.lst (fun h => h) (.lst (fun h => h) (.at (.ownT ha (by simp) (mapM_map (f := handC true) (g := fun (r : List AV) => r.mapM (leafP h [] 2)) (e := handC false) (fun _ => rfl) _) (by simp [freshCell]) (.ownT hb (by simp) (mapM_map (f := mailC true) (g := fun (r : List AV) => r.mapM (leafP h [] 2)) (e := mailC false) (fun _ => rfl) _) (by simp [freshCell]) (.nil _))))))))))
abbrev doWR (q : S.World × Int) : AV := .tup [.agg (worldC true q.1), Int' q.2]
theorem check_eq {w : S.World} {e : Int} (h : S.checkWorld w = e) : C Tryz.prog 9 [.agg (worldC false w)] (Int' e) [] := h ▸ world_Check w
theorem world_Do (w : S.World) (x : S.Hap) : C Tryz.prog 6 [.agg (worldC false w), .agg (hapC false x)] (doWR (S.doWorld w x)) [] := by
 obtain ⟨r, hr⟩ : ∃ r, S.doWorld w x = r := ⟨_, rfl⟩;rw [hr];unfold S.doWorld at hr;by_cases hc : S.checkWorld w = 0
 rotate_left
 ·rw [if_pos hc] at hr;have c1 := hid (world_Check w);subst hr;generalize S.checkWorld w = e at *;refine CI Tryz.func6 ?_;refine rC c1.out ?_;refine rS hc ?_;exact ends_ag outL rfl
 rw [if_neg (by simp [hc])] at hr;have c1 := hid (check_eq hc);obtain ⟨l, hok⟩ := check_okW hc;have c2 := hid (world_Copy w (okW_small hok));replace hok := hid hok;obtain ⟨q, hq⟩ : ∃ q, S.happen w x = q := ⟨_, rfl⟩;rw [hq] at hr;refine CI Tryz.func6 ?_;refine rC c1.out ?_;refine rC c2.out ?_;refine rN ?_;refine call_CSx (happen_world (w := w) (x := x) (a := 40) (b := 41) hok.out ⟨⟨_, by repeat (first | exact upd_same _ _ _ | rw [upd_ne _ _ (by omega)]), SubL.reflF _⟩, ⟨_, by repeat (first | exact upd_same _ _ _ | rw [upd_ne _ _ (by omega)]), SubRow.refl _⟩, ⟨_, by repeat (first | exact upd_same _ _ _ | rw [upd_ne _ _ (by omega)]), SubRow.refl _⟩, by omega, by omega, by omega, by omega, by omega, by omega⟩ (SubL.reflF _)) ?_;rw [hq];rintro h n z ⟨rfl, hn, hh, hw⟩;have h8 := hh 8 (by omega) (by omega) (by omega) (by omega);have h4 := hh 4 (by omega) (by omega) (by omega) (by omega);simp -dsimp -implicitDefEqProofs at h8 h4;by_cases he : q.2 = 0
 rotate_left
 ·rw [if_pos he] at hr;subst hr;refine rS (aN he h8) ?_;exact ends_ag outL rfl
 rw [if_neg (by simp [he])] at hr;obtain ⟨⟨b', W, hb'⟩, -, -⟩ := hw he;obtain ⟨hi, ha, hb, li, la, lb, ia, ib, ab⟩ := W;subst hr;refine rS (aN he (aN h8 (aN hi (aN ha hb)))) ?_;exact ends_ag (out_world (by rw [upd_ne _ _ (by omega)]; exact ha) (by rw [upd_ne _ _ (by omega)]; exact hb)) rfl
theorem doW_eq {w : S.World} {x : S.Hap} {q : S.World × Int} (h : S.doWorld w x = q) : C Tryz.prog 6 [.agg (worldC false w), .agg (hapC false x)] (doWR q) [] := h ▸ world_Do w x
abbrev runWR (q : S.World × List Int × Int) : AV := .tup [.agg (worldC true q.1), .lst true 1 (I q.2.1), Int' q.2.2]
def RunW (h : Heap) (n : Nat) (v : AV) (l : List S.Hap) (q : S.World × List Int) : Prop :=
 ∃ (w : S.World) (said : List Int) (a b : Nat), h 0 = some ⟨37, 10, [ownW true w a b]⟩ /\ h a = some ⟨85, 8, w.hand.map (handC true)⟩ /\ h b = some ⟨78, 11, w.mail.map (mailC true)⟩ /\ 4 < a /\ 4 < b /\ a < n /\ b < n /\ a ≠ b /\
  h 4 = some ⟨37, 10, [[.nl, .nl, Int' 0, Int' 0, .nl, .nl, .nl, Bool' false, .nl, .nl]]⟩ /\ S.checkWorld w = 0 /\
  ((said = [] /\ v = .nl) \/ ∃ y, v = .own y 0 said.length /\ 4 < y /\ y < n /\ y ≠ a /\ y ≠ b /\ h y = some ⟨42, 1, I said⟩) /\ said.length + l.length <= 120 /\ (S.script w l).1 = q.1 /\ said ++ (S.script w l).2 = q.2
theorem view_world {h : Heap} {fr : Bool} {a b : Nat} {w : S.World} (ha : h a = some ⟨85, 8, w.hand.map (handC fr)⟩) (hb : h b = some ⟨78, 11, w.mail.map (mailC fr)⟩) : [AV.agg (ownW fr w a b)].mapM (viewV h) = some [.agg (worldC false w)] := by
 have e1 : leafV h (.own a 0 w.hand.length) = some (.lst false 8 (w.hand.map (handC false))) := by
  show (match h a with | some e => if 0 + w.hand.length <= e.rows.length then (((e.rows.drop 0).take w.hand.length).mapM fun (r : List AV) => r.mapM (leafP h [] 2)).map (AV.lst false e.s ·) else none | none => none) = _;rw [ha];simp only [List.drop_zero];rw [if_pos (by simp), take_map_len, mapM_map (f := handC fr) (g := fun (r : List AV) => r.mapM (leafP h [] 2)) (e := handC false) (fun _ => rfl)];rfl
 have e2 : leafV h (.own b 0 w.mail.length) = some (.lst false 11 (w.mail.map (mailC false))) := by
  show (match h b with | some e => if 0 + w.mail.length <= e.rows.length then (((e.rows.drop 0).take w.mail.length).mapM fun (r : List AV) => r.mapM (leafP h [] 2)).map (AV.lst false e.s ·) else none | none => none) = _;rw [hb];simp only [List.drop_zero];rw [if_pos (by simp), take_map_len, mapM_map (f := mailC fr) (g := fun (r : List AV) => r.mapM (leafP h [] 2)) (e := mailC false) (fun _ => rfl)];rfl
 have e3 : viewV h (.agg (ownW fr w a b)) = some (.agg (worldC false w)) := by
  show ((_ : List AV).mapM (leafV h)).map AV.agg = _;simp only [List.mapM_cons, List.mapM_nil, e1, e2];rfl
 rw [List.mapM_cons, e3];rfl
theorem new_world (w : S.World) : newNews [⟨85, 8, w.hand.map (handC true)⟩, ⟨78, 11, w.mail.map (mailC true)⟩] = true := by simp [newNews, newLeaf]
theorem script_cons (w : S.World) (x : S.Hap) (l : List S.Hap) : S.script w (x :: l) = ((S.script (if (S.happen w x).2 = 0 then (S.happen w x).1 else w) l).1, (S.happen w x).2 :: (S.script (if (S.happen w x).2 = 0 then (S.happen w x).1 else w) l).2) := rfl
theorem ends_wie {h : Heap} {n : Nat} {cells target : List AV} {c t : AV} {e e' : Int} (ho : OutL h cells target) (hc : OutL h [c] [t]) (he : e = e') : Ends [] (.tup [.agg target, t, Int' e']) [] h n (.tup [.agg cells, c, Int' e]) := by
 subst he;obtain ⟨c1, o1, s1⟩ := ho;obtain ⟨c2, o2, s2⟩ := hc;obtain ⟨z, rest, hz, hr, rfl⟩ := mapM_inv o2;simp at hr;subst hr
 have e2 : outAgg h [] c = some z := by
  unfold outAgg;split
  ·simp [outLeaf] at hz
  ·exact hz
 have e1 : outAgg h [] (.agg cells) = some (.agg c1) := by
  show (cells.mapM (outLeaf h [])).map AV.agg = _;rw [o1]; rfl
 refine ⟨⟨.tup [.agg c1, z, Int' e], ?_, .tup (.cons (.agg s1) (.cons (.leaf (s2.2 0 z t rfl rfl)) (.cons (.refl _) (.nil _))))⟩, rfl⟩;show (List.mapM (outAgg h []) [.agg cells, c, Int' e]).map AV.tup = _;rw [List.mapM_cons, e1, List.mapM_cons, e2];rfl
theorem world_Run (w : S.World) (l : List S.Hap) : C Tryz.prog 29 [.agg (worldC false w), .lst false 8 (l.map (hapC false))] (runWR (S.runWorld w l)) [] := by
 obtain ⟨r, hr⟩ : ∃ r, S.runWorld w l = r := ⟨_, rfl⟩;rw [hr];unfold S.runWorld at hr;by_cases hc : S.checkWorld w = 0
 rotate_left
 ·rw [if_pos hc] at hr;have c1 := hid (world_Check w);subst hr;generalize S.checkWorld w = e at *;refine CI Tryz.func29 ?_;refine rC c1.out ?_;refine rS hc ?_;exact ends_wie outL outL rfl
 rw [if_neg (by simp [hc])] at hr;have c1 := hid (check_eq hc);by_cases hl : 120 < l.length
 ·rw [if_pos hl] at hr;have hl' : decide ((120 : Int) < (l.length : Int)) = true := by simp; omega
  have hl'' : decide (120 < l.length) = true := by simp; omega
  subst hr;refine CI Tryz.func29 ?_;refine rC c1.out ?_;refine rS (aN hl' hl'') ?_;exact ends_wie outL outL rfl
 rw [if_neg hl] at hr;have hl' : decide ((120 : Int) < (l.length : Int)) = false := by simp; omega
 have hl'' : decide (120 < l.length) = false := by simp; omega
 obtain ⟨L, hok⟩ := check_okW hc;have c2 := hid (world_Copy w (okW_small hok));obtain ⟨q, hq⟩ : ∃ q, S.script w l = q := ⟨_, rfl⟩;rw [hq] at hr;subst hr;have hq' := hid hq;have hc' := hid hc;clear hq hc hok;refine CI Tryz.func29 ?_;refine rC c1.out ?_;refine rD (aN hl' hl'') c2.out ?_;refine rN ?_;refine loop_count 27 l.length (fun k h n t => RunW h n (t 8) (l.drop k) q /\ ∃ d, n = d + 76) _ rfl (by rfl) ⟨⟨w, [], 52, 53, rfl, rfl, rfl, by omega, by omega, by show 52 < 76; omega, by show 53 < 76; omega, by omega, rfl, hc'.out, .inl ⟨rfl, rfl⟩, by simp; omega, by rw [List.drop_zero, hq'.out], by rw [List.drop_zero, hq'.out]; rfl⟩, ⟨0, rfl⟩⟩ ?_ ?_
 ·rintro k t h n hk hci hs ⟨⟨w1, said, a, b, h0, ha, hb, a4, b4, an, bn, ab, h4, hcw, hsd, hle, hq1, hq2⟩, d, rfl⟩;have hw : IntKind.i64.wrap ((k : Int) + 1) = (k : Int) + 1 := wrap_ok (by omega);obtain ⟨x, hx⟩ : ∃ x, l[k]? = some x := ⟨l[k], by simp⟩;have hk' : decide (k < l.length) = true := by simp [hk]
  rw [drop_cons hx] at hq1 hq2 hle;rw [script_cons] at hq1 hq2;obtain ⟨⟨v, e⟩, hv⟩ : ∃ p, S.happen w1 x = p := ⟨_, rfl⟩;rw [hv] at hq1 hq2;obtain ⟨L1, hok1⟩ := check_okW hcw;have cc := hid (world_Copy w1 (okW_small hok1))
  have hokv : e = 0 -> S.checkWorld v = 0 := fun g => by
   subst g;obtain ⟨L2, h2⟩ := okW_happen hok1 hv;exact okW_check h2
  replace hok1 := hid hok1;replace hokv := hid hokv;simp only [List.length_cons] at hle;have e8 : t 8 = t 8 := rfl;obtain ⟨sv, hsv⟩ : ∃ sv, t 8 = sv := ⟨_, rfl⟩;rw [hsv] at hsd;clear c1 c2 hc' e8;have e2 := hs 2 rfl;have e4 := hs 4 rfl;have e25 := hs 25 rfl;have e26 := hs 26 rfl;clear hs;simp -dsimp -implicitDefEqProofs at e2 e4 e25 e26;replace hk := hid hk;replace hq1 := hid hq1;replace hq2 := hid hq2;replace hsd := hid hsd;replace hle := hid hle;refine rS (aN e2 (aN e4 (aN e25 (aN e26 (aN hci (aN hk' (aN hx (aN h0 (aN ha (aN hb (aN h4 (aN hsv (aN (far an) (far bn)))))))))))))) ?_;refine call_CC (cc.out) ?_ (view_world (fr := true) (by rw [upd_ne _ _ (by omega), upd_ne _ _ (by omega)]; exact ha) (by rw [upd_ne _ _ (by omega), upd_ne _ _ (by omega)]; exact hb)) (.inl ⟨rfl, new_world _⟩);refine rS (aN e2 (aN e4 (aN e25 (aN e26 (aN hci (aN h0 (aN ha (aN hb (aN h4 (aN hsv (aN (far an) (far bn)))))))))))) ?_;refine call_CSx (happen_world (w := w1) (x := x) (a := d + 76 + 4 + 16 + 4) (b := d + 76 + 4 + 16 + 4 + 1) hok1.out ⟨⟨_, by repeat (first | exact upd_same _ _ _ | rw [upd_ne _ _ (by omega)]), SubL.reflF _⟩, ⟨_, by repeat (first | exact upd_same _ _ _ | rw [upd_ne _ _ (by omega)]), SubRow.refl _⟩, ⟨_, by repeat (first | exact upd_same _ _ _ | rw [upd_ne _ _ (by omega)]), SubRow.refl _⟩, by omega, by omega, by omega, by omega, by omega, by omega⟩ (SubL.reflF _)) ?_;rw [hv];rintro h' n' z ⟨rfl, hn, hh, hw2⟩;obtain ⟨n1, rfl⟩ : ∃ n1, n' = n1 + 1 := ⟨n' - 1, by omega⟩;have g0 : h' 0 = some ⟨37, 10, [ownW true w1 a b]⟩ := (hh 0 (by omega) (by omega) (by omega) (by omega)).trans (by repeat (first | exact h0 | rw [upd_ne _ _ (by omega)]));have g4 : h' 4 = some ⟨37, 10, [[.nl, .nl, Int' 0, Int' 0, .nl, .nl, .nl, Bool' false, .nl, .nl]]⟩ := (hh 4 (by omega) (by omega) (by omega) (by omega)).trans (by repeat (first | exact h4 | rw [upd_ne _ _ (by omega)]));have ga : h' a = some ⟨85, 8, w1.hand.map (handC true)⟩ := (hh a (by omega) (by omega) (by omega) (by omega)).trans (by repeat (first | exact ha | rw [upd_ne _ _ (by omega)]));have gb : h' b = some ⟨78, 11, w1.mail.map (mailC true)⟩ := (hh b (by omega) (by omega) (by omega) (by omega)).trans (by repeat (first | exact hb | rw [upd_ne _ _ (by omega)]));have gy : ∀ y, y < d + 76 -> 4 < y -> h' y = h y := fun y y1 y2 => (hh y (by omega) (by omega) (by omega) (by omega)).trans (by repeat (first | rfl | rw [upd_ne _ _ (by omega)]))
  clear hh cc h0 h4 ha hb;have a1 : a < n1 + 1 := by omega
  have b1 : b < n1 + 1 := by omega
  have i1 : d + 76 + 4 + 16 + 8 < n1 + 1 := by omega
  have dd1 : decide (100000000 < 1) = false := by decide
  have dd2 : said.length <= 100000000 := by have := hle.out; omega
  have dd3 : (I said).take said.length = I said := List.take_of_length_le (by simp);have dd4 : I said ++ [[.at (.int .i64 e)]] = I (said ++ [e]) := by simp [I]
  by_cases he : e = 0
  ·subst he;have hcv := hokv.out rfl;have hqa := hq1.out;have hqb := hq2.out;simp only [if_true] at hqa hqb;replace hqa := hid hqa;replace hqb := hid hqb;obtain ⟨⟨b2, W2, hb2⟩, -, -⟩ := hw2 rfl;obtain ⟨vi, va, vb, wi, wa, wb, wia, wib, wab⟩ := W2;simp only at vi va vb;rcases hsd.out with ⟨hs0, hs1⟩ | ⟨y, hs1, y4, yn, ya, yb, hy⟩
   ·subst hs0 hs1;clear hsd;refine rS (aN e2 (aN e4 (aN e25 (aN e26 (aN hci (aN hw (aN g0 (aN g4 (aN hsv (aN vi (aN va (aN vb (aN dd1 (far i1)))))))))))))) ?_;exact ⟨⟨v, [0], d + 76 + 4 + 16 + 4, b2, by repeat (first | exact upd_same _ _ _ | rw [upd_ne _ _ (by omega)]), by repeat (first | exact va | rw [upd_ne _ _ (by omega)]), by repeat (first | exact vb | rw [upd_ne _ _ (by omega)]), by omega, by omega, by omega, by omega, wab, by repeat (first | exact g4 | rw [upd_ne _ _ (by omega)]), hcv, .inr ⟨_, rfl, by omega, by omega, by omega, by omega, by repeat (first | exact upd_same _ _ _ | rw [upd_ne _ _ (by omega)])⟩, by have := hle.out; simp at this ⊢; omega, hqa.out, hqb.out⟩, ⟨n1 - 31, by omega⟩⟩
   ·subst hs1;have hy' := (gy y yn y4).trans hy;have y1 : y < n1 + 1 := by omega
    have y0 : ¬ y = 0 := by omega
    have yi : ¬ y = d + 76 + 4 + 16 + 8 := by omega
    clear hsd hy;refine rS (aN e2 (aN e4 (aN e25 (aN e26 (aN hci (aN hw (aN g0 (aN g4 (aN hsv (aN vi (aN va (aN vb (aN hy' (aN dd1 (aN dd2 (aN dd3 (aN y0 (aN yi (aN (far i1) (far y1)))))))))))))))))))) ?_;exact ⟨⟨v, said ++ [0], d + 76 + 4 + 16 + 4, b2, by repeat (first | exact upd_same _ _ _ | rw [upd_ne _ _ (by omega)]), by repeat (first | exact va | rw [upd_ne _ _ (by omega)]), by repeat (first | exact vb | rw [upd_ne _ _ (by omega)]), by omega, by omega, by omega, by omega, wab, by repeat (first | exact g4 | rw [upd_ne _ _ (by omega)]), hcv, .inr ⟨_, by rw [List.length_append]; rfl, by omega, by omega, by omega, by omega, by rw [<- dd4]; exact upd_same _ _ _⟩, by have := hle.out; simp at this ⊢; omega, hqa.out, by rw [List.append_assoc]; exact hqb.out⟩, ⟨n1 - 31, by omega⟩⟩
  ·have hqa := hq1.out;have hqb := hq2.out;simp only [if_neg he] at hqa hqb;replace hqa := hid hqa;replace hqb := hid hqb;clear hw2;rcases hsd.out with ⟨hs0, hs1⟩ | ⟨y, hs1, y4, yn, ya, yb, hy⟩
   ·subst hs0 hs1;clear hsd;refine rS (aN e2 (aN e4 (aN e25 (aN e26 (aN hci (aN hw (aN g0 (aN g4 (aN hsv (aN he (aN dd1 (far i1)))))))))))) ?_;exact ⟨⟨w1, [e], a, b, by repeat (first | exact g0 | rw [upd_ne _ _ (by omega)]), by repeat (first | exact ga | rw [upd_ne _ _ (by omega)]), by repeat (first | exact gb | rw [upd_ne _ _ (by omega)]), a4, b4, by omega, by omega, ab, by repeat (first | exact g4 | rw [upd_ne _ _ (by omega)]), hcw, .inr ⟨_, rfl, by omega, by omega, by omega, by omega, upd_same _ _ _⟩, by have := hle.out; simp at this ⊢; omega, hqa.out, hqb.out⟩, ⟨n1 - 39, by omega⟩⟩
   ·subst hs1;have hy' := (gy y yn y4).trans hy;have y1 : y < n1 + 1 := by omega
    have y0 : ¬ y = 0 := by omega
    have yi : ¬ y = d + 76 + 4 + 16 + 8 := by omega
    clear hsd hy;refine rS (aN e2 (aN e4 (aN e25 (aN e26 (aN hci (aN hw (aN g0 (aN g4 (aN hsv (aN hy' (aN he (aN dd1 (aN dd2 (aN dd3 (aN y0 (aN yi (aN (far i1) (far y1)))))))))))))))))) ?_;exact ⟨⟨w1, said ++ [e], a, b, by repeat (first | exact g0 | rw [upd_ne _ _ (by omega)]), by repeat (first | exact ga | rw [upd_ne _ _ (by omega)]), by repeat (first | exact gb | rw [upd_ne _ _ (by omega)]), a4, b4, by omega, by omega, ab, by repeat (first | exact g4 | rw [upd_ne _ _ (by omega)]), hcw, .inr ⟨_, by rw [List.length_append]; rfl, by omega, by omega, by omega, by omega, by rw [<- dd4]; exact upd_same _ _ _⟩, by have := hle.out; simp at this ⊢; omega, hqa.out, by rw [List.append_assoc]; exact hqb.out⟩, ⟨n1 - 39, by omega⟩⟩
 ·rintro t h n hci hs ⟨⟨w1, said, a, b, h0, ha, hb, a4, b4, an, bn, ab, h4, hcw, hsd, hle, hq1, hq2⟩, d, rfl⟩;rw [List.drop_length] at hq1 hq2;simp only [S.script, List.append_nil] at hq1 hq2;obtain ⟨qw, qs⟩ := q;simp only at hq1 hq2;subst hq1 hq2;obtain ⟨sv, hsv⟩ : ∃ sv, t 8 = sv := ⟨_, rfl⟩;rw [hsv] at hsd;clear c1 c2;have e2 := hs 2 rfl;have e4 := hs 4 rfl;have e25 := hs 25 rfl;have e26 := hs 26 rfl;clear hs;simp -dsimp -implicitDefEqProofs at e2 e4 e25 e26;replace hsd := hid hsd;refine rS (aN e2 (aN e4 (aN e25 (aN e26 (aN hci (aN h0 (aN h4 (aN hsv (aN (far an) (far bn)))))))))) ?_;have o1 : OutL (E.upd h 4 (some ⟨37, 10, [ownW true w1 a b]⟩)) (ownW true w1 a b) (worldC true w1) := out_world (by rw [upd_ne _ _ (by omega)]; exact ha) (by rw [upd_ne _ _ (by omega)]; exact hb);rcases hsd.out with ⟨hs0, hs1⟩ | ⟨y, hs1, y4, yn, ya, yb, hy⟩
  ·subst hs0 hs1;exact ends_wie o1 (.nl (.nil _)) rfl
  ·subst hs1;exact ends_wie o1 (.ints (e := ⟨42, 1, I said⟩) (by rw [upd_ne _ _ (by omega)]; exact hy) ⟨rfl, rfl⟩ rfl (.nil _)) rfl
theorem runW_eq {w : S.World} {l : List S.Hap} {q : S.World × List Int × Int} (h : S.runWorld w l = q) : C Tryz.prog 29 [.agg (worldC false w), .lst false 8 (l.map (hapC false))] (runWR q) [] := h ▸ world_Run w l
theorem equal_errs' (xs ys : List Int) (hlen : xs.length <= maxLen) : C Tryz.prog 30 [.lst false 1 (I xs), .lst false 1 (I ys)] (.at (.bool (decide (xs = ys)))) [] := by
 unfold maxLen at hlen;refine CI Tryz.func30 ?_;simp -dsimp -implicitDefEqProofs [initT];refine brA_split (fun h1 => ?_) (fun h1 => ?_) <;> simp -dsimp -implicitDefEqProofs [*]
 rotate_left
 ·refine ends_bool ?_;simp at h1;simp;intro e; subst e; simp at h1
 simp at h1;have hl : xs.length = ys.length := by omega
 refine loop_count 13 xs.length (fun k h _ _ => h = _ /\ Hid (∀ j, j < k -> xs[j]? = ys[j]?)) _ rfl (by rfl) ⟨rfl, by intro j hj; omega⟩ ?_ ?_
 ·rintro k t h m hk hci hs ⟨rfl, hb⟩;have e0 := hs 0 rfl;have e1 := hs 1 rfl;have e12 := hs 12 rfl;clear hs;simp -dsimp -implicitDefEqProofs at e0 e1 e12;have hw : IntKind.i64.wrap ((k : Int) + 1) = (k : Int) + 1 := wrap_ok (by omega);have hlt : decide (k < xs.length) = true := by simp; exact hk
  have hlt2 : decide (k < ys.length) = true := by simp; omega
  obtain ⟨x, hx⟩ : ∃ x, xs[k]? = some x := ⟨xs[k], by simp⟩;obtain ⟨y, hy⟩ : ∃ y, ys[k]? = some y := ⟨ys[k]'(by omega), by simp⟩;replace hk := hid hk;replace hl := hid hl;simp -dsimp -implicitDefEqProofs [*];refine brA_split (fun g1 => ?_) (fun g1 => ?_) <;> simp -dsimp -implicitDefEqProofs [*]
  rotate_left
  ·exact ends_bool (same_ne hx hy (by simpa using g1)).symm
  refine hid fun j hj => ?_
  rcases Nat.lt_or_ge j k with g | g
  ·exact hb.out j g
  ·have : j = k := by omega
   subst this;simp at g1;rw [hx, hy, g1]
 ·rintro t h m hci hs ⟨rfl, hb⟩;have e0 := hs 0 rfl;have e1 := hs 1 rfl;have e12 := hs 12 rfl;clear hs;simp -dsimp -implicitDefEqProofs at e0 e1 e12;simp -dsimp -implicitDefEqProofs [*];refine ends_bool ?_;symm
  simp;apply List.ext_getElem?;intro j;rcases Nat.lt_or_ge j xs.length with g | g
  ·exact hb.out j g
  ·rw [List.getElem?_eq_none g, List.getElem?_eq_none (by omega)]
theorem equal_errs (xs ys : List Int) (hlen : xs.length <= 100000000) : C Tryz.prog 30 [.lst false 1 (I xs), .lst false 1 (I ys)] (.at (.bool (decide (xs = ys)))) [] := equal_errs' xs ys (by unfold maxLen; omega)
theorem law_asked1 (k n : Int) : C Tryz.prog 37 [Int' k, Int' n] (.agg (hapC true ⟨k, 0, n, S.Cmd.zero⟩)) [] := by
 refine CI Tryz.func37 ?_;refine rN ?_;exact ends_agg outL
abbrev askedL : List S.Hap := [⟨1, 0, 0, putC 5⟩, ⟨5, 0, 0, S.Cmd.zero⟩, ⟨2, 0, 0, S.Cmd.zero⟩, ⟨4, 0, 0, S.Cmd.zero⟩, ⟨6, 0, 0, S.Cmd.zero⟩, ⟨3, 0, 0, S.Cmd.zero⟩, ⟨7, 0, 0, S.Cmd.zero⟩, ⟨3, 0, 0, S.Cmd.zero⟩, ⟨3, 0, 0, S.Cmd.zero⟩, ⟨3, 0, 0, S.Cmd.zero⟩, ⟨2, 0, 0, S.Cmd.zero⟩]
theorem law_asked : C Tryz.prog 8 [] (Bool' true) [] := by
 obtain ⟨⟨w, said, e⟩, hq⟩ : ∃ q, S.runWorld S.World.new askedL = q := ⟨_, rfl⟩;have f1 : (S.runWorld S.World.new askedL).2 = ([0, 0, 0, 0, 0, 6, 0, 0, 0, 0, 6], 0) := by decide +kernel
 have f2 : ((S.runWorld S.World.new askedL).1.h.d.zs[1]?).map (·.d) = some [5] := by decide +kernel
 have f3 : ((S.runWorld S.World.new askedL).1.hand[0]?).map (·.got.length) = some 1 := by decide +kernel
 have f4 : (S.runWorld S.World.new askedL).1.mail.length = 0 := by decide +kernel
 rw [hq] at f1 f2 f3 f4;simp only [Prod.mk.injEq] at f1 f2 f3 f4;obtain ⟨rfl, rfl⟩ := f1;obtain ⟨z, hz, hz2⟩ := Option.map_eq_some_iff.1 f2;obtain ⟨x, hx, hx2⟩ := Option.map_eq_some_iff.1 f3;have cr := hid (runW_eq hq);have cp := hid (law_puts 5);have c5 := hid (law_asked1 5 0);have c2 := hid (law_asked1 2 0);have c4 := hid (law_asked1 4 0);have c6 := hid (law_asked1 6 0);have c3 := hid (law_asked1 3 0);have c7 := hid (law_asked1 7 0)
 have ce : C Tryz.prog 30 [.lst false 1 (I [0, 0, 0, 0, 0, 6, 0, 0, 0, 0, 6]), .lst false 1 (I [0, 0, 0, 0, 0, 6, 0, 0, 0, 0, 6])] (Bool' true) [] := by
  have := equal_errs [0, 0, 0, 0, 0, 6, 0, 0, 0, 0, 6] [0, 0, 0, 0, 0, 6, 0, 0, 0, 0, 6] (by decide);rwa [decide_eq_true rfl] at this
 have ci : C Tryz.prog 39 [.lst false 1 (I z.d), .lst false 1 (I [5])] (Bool' true) [] := by
  have := equal_int z.d [5] (by rw [hz2]; decide);rwa [decide_eq_true hz2] at this
 replace ce := hid ce;replace ci := hid ci;have hx3 : ((x.got.length : Nat) : Int) = 1 := by omega
 have hx4 : decide (x.got.length = 1) = true := by simp [hx2]
 have hm4 : decide (w.mail.length = 0) = true := by simp [f4]
 clear hq f2 f3;refine CI Tryz.func8 ?_;refine rC world_New ?_;refine rC cp.out ?_;refine rC c5.out ?_;refine rC c2.out ?_;refine rC c4.out ?_;refine rC c6.out ?_;refine rC c3.out ?_;refine rC c7.out ?_;refine rC c3.out ?_;refine rC c3.out ?_;refine rC c3.out ?_;refine rC c2.out ?_;refine rC cr.out ?_;refine rC ce.out ?_;refine rD (aN hz (aN hx (aN hx4 (aN hx3 (aN hm4 f4))))) ci.out ?_;refine rS (aN hz (aN hx (aN hx4 (aN hx3 (aN hm4 f4))))) ?_;exact ends_bool rfl
end Go.Proofs.YtadmfokicjjglaaGreatDoor.E
