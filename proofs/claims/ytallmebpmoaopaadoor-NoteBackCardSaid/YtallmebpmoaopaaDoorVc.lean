
/- Vc: cmd.Print. -/
import Derived.Test.YtallmebpmoaopaaDoorVb
namespace Go.Proofs.YtallmebpmoaopaaDoor.E
open Go.RowKit Go.Proofs
set_option linter.unusedVariables false
set_option linter.unusedSimpArgs false
set_option maxRecDepth 100000
set_option maxHeartbeats 2000000

/-- a text to which so many numbers are still to be put -/
def TextAt (v : AV) (ns : List Int) (r : List UInt8) (b : Nat) : Prop := ∃ s, v = Tx s ∧ S.withNums s ns = r ∧ s.length ≤ b

theorem uses_cases {k : Int} (h1 : 1 ≤ k) (h2 : k ≤ 12) : (S.uZ k = true ∧ S.uA k = false ∧ S.uN k = false) ∨ (S.uZ k = true ∧ S.uA k = true ∧ S.uN k = false) ∨ (S.uZ k = true ∧ S.uA k = true ∧ S.uN k = true) ∨ (S.uZ k = false ∧ S.uA k = false ∧ S.uN k = true) ∨ (S.uZ k = false ∧ S.uA k = false ∧ S.uN k = false) := by
  rcases S.kinds12 h1 h2 with rfl | rfl | rfl | rfl | rfl | rfl | rfl | rfl | rfl | rfl | rfl | rfl <;> decide
theorem uses_casesD {k : Int} (h1 : 1 ≤ k) (h2 : k ≤ 12) : (S.uZ k = true ∧ S.uA k = false ∧ S.uN k = false ∧ S.uD k = false) ∨ (S.uZ k = true ∧ S.uA k = false ∧ S.uN k = false ∧ S.uD k = true) ∨ (S.uZ k = true ∧ S.uA k = true ∧ S.uN k = false ∧ S.uD k = true) ∨ (S.uZ k = true ∧ S.uA k = true ∧ S.uN k = true ∧ S.uD k = false) ∨ (S.uZ k = false ∧ S.uA k = false ∧ S.uN k = true ∧ S.uD k = false) ∨ (S.uZ k = false ∧ S.uA k = false ∧ S.uN k = false ∧ S.uD k = false) := by
  rcases S.kinds12 h1 h2 with rfl | rfl | rfl | rfl | rfl | rfl | rfl | rfl | rfl | rfl | rfl | rfl <;> decide
theorem word_at {K : Nat} (h : K ≤ 12) : ∃ w, S.words[K]? = some w ∧ S.wordOf K = w ∧ w.length ≤ 8 := by
  have : ∀ K : Fin 13, ∃ w, S.words[K.val]? = some w ∧ S.wordOf (K.val : Int) = w ∧ w.length ≤ 8 := by decide
  exact this ⟨K, by omega⟩

theorem itoa_call {n : Int} (h0 : 0 ≤ n) (h1 : n ≤ 999) : C Tryd.prog 37 [Int' n] (Tx (Lib.itoa n)) [] := strconv_Itoa n (by omega) (by omega)
theorem ends_ti {h : Heap} {n : Nat} {a b : List UInt8} {e e' : Int} (h1 : a = b) (h2 : e = e') : Ends [] (.tup [Tx b, Int' e']) [] h n (.tup [Tx a, Int' e]) := by
  subst h1; subst h2
  exact ⟨⟨_, rfl, .refl _⟩, rfl⟩

theorem cmd_Print_ok (c : S.Cmd) (hc : S.checkCmd c = 0) : C Tryd.prog 8 [.agg (cmdC false c)] (.tup [Tx (S.cmdText c), Int' 0]) [] := by
  obtain ⟨k1, k12, hm, hd, hz, hp, hn, hb⟩ := S.checkCmd_ok hc
  have h1 := hid (hc ▸ cmd_Check c)
  obtain ⟨kind, z, n, p, d⟩ := c
  simp only at k1 k12 hm hd hz hp hn hb
  obtain ⟨K, rfl⟩ : ∃ K : Nat, kind = K := ⟨kind.toNat, by omega⟩
  obtain ⟨w, hw, hw2, hwl⟩ := word_at (K := K) (by omega)
  have hu := uses_cases k1 k12
  have h2 := cmd_uses K
  obtain ⟨r, hr⟩ : ∃ r, S.cmdText ⟨K, z, n, p, d⟩ = r := ⟨_, rfl⟩
  rw [hr]
  unfold S.cmdText S.heads at hr
  simp only [hw2] at hr
  clear hc hm
  generalize S.uZ K = b1 at *
  generalize S.uA K = b2 at *
  generalize S.uN K = b3 at *
  generalize S.uD K = b4 at *
  have iz := hid (itoa_call hz.1 hz.2)
  have ip := hid (itoa_call hp.1 hp.2)
  have in' := hid (itoa_call hn.1 hn.2)
  have lz := hid (S.itoa_facts hz.1 (by omega)).2.2.2
  have lp := hid (S.itoa_facts hp.1 (by omega)).2.2.2
  have ln := hid (S.itoa_facts hn.1 (by omega)).2.2.2
  replace hb := hid hb
  replace h2 := hid h2
  clear hz hp hn k1 k12 hw2
  have az : decide (1 + (Lib.itoa z).length ≤ 4000000000000000000) = true := by have := lz.out; simp; omega
  have ap : decide (1 + (Lib.itoa p).length ≤ 4000000000000000000) = true := by have := lp.out; simp; omega
  have an : decide (1 + (Lib.itoa n).length ≤ 4000000000000000000) = true := by have := ln.out; simp; omega
  have lw := hid hwl
  clear hwl
  rcases hu with ⟨rfl, rfl, rfl⟩ | ⟨rfl, rfl, rfl⟩ | ⟨rfl, rfl, rfl⟩ | ⟨rfl, rfl, rfl⟩ | ⟨rfl, rfl, rfl⟩
  · simp only [if_true, Bool.false_eq_true, if_false, List.append_nil, List.nil_append, List.cons_append, S.withNums] at hr
    replace hr := hid hr
    have bz : decide (w.length + ((Lib.itoa z).length + 1) ≤ 4000000000000000000) = true := by have := lw.out; have := lz.out; simp; omega
    refine C_inline [] Tryd.func8 (fun _ _ => by kernel_rfl) rfl (by kernel_rfl) (by rfl) (by decide) (by rfl) (by rfl) (by rfl) ?_
    simp -dsimp -implicitDefEqProofs [-getElem?_pos, -List.map_append, -List.map_set, List.getElem?_cons_zero, List.getElem?_cons_succ]
    refine call_CC (h1.out) ?_
    simp -dsimp -implicitDefEqProofs [-getElem?_pos, -List.map_append, -List.map_set, List.getElem?_cons_zero, List.getElem?_cons_succ]
    refine call_CC (cmd_words) ?_
    simp -dsimp -implicitDefEqProofs [-getElem?_pos, -List.map_append, -List.map_set, List.getElem?_cons_zero, List.getElem?_cons_succ, hw]
    refine call_CC (h2.out) ?_
    simp -dsimp -implicitDefEqProofs [-getElem?_pos, -List.map_append, -List.map_set, List.getElem?_cons_zero, List.getElem?_cons_succ]
    refine loop_unroll 4 ?_
    simp -dsimp -implicitDefEqProofs [-getElem?_pos, -List.map_append, -List.map_set, List.getElem?_cons_zero, List.getElem?_cons_succ]
    refine call_CC (iz.out) ?_
    simp -dsimp -implicitDefEqProofs [-getElem?_pos, -List.map_append, -List.map_set, List.getElem?_cons_zero, List.getElem?_cons_succ, az, bz]
    refine loop_count 47 d.length (fun k h m t => TextAt (t 5) (d.drop k) r (100 + 4 * k) ∧ ∃ d, m = d + 4) _ rfl (by rfl) ⟨⟨_, rfl, by simpa [List.append_assoc] using hr.out, by simp; have := lw.out; have := lz.out; omega⟩, ⟨_, rfl⟩⟩ ?_ ?_
    · rintro k t h m hk hci hs ⟨⟨s, t5, hs1, hs2⟩, m', rfl⟩
      have hw' : IntKind.i64.wrap ((k : Int) + 1) = (k : Int) + 1 := wrap_ok (by omega)
      obtain ⟨x, hx⟩ : ∃ x, d[k]? = some x := ⟨d[k], by simp⟩
      have hk' : decide (k < d.length) = true := by simp [hk]
      have hxb := hb.out x (List.mem_of_getElem? hx)
      have ix := hid (itoa_call hxb.1 hxb.2)
      have lx := (S.itoa_facts hxb.1 (by omega)).2.2.2
      have ax : decide (1 + (Lib.itoa x).length ≤ 4000000000000000000) = true := by simp; omega
      have bx : decide (s.length + ((Lib.itoa x).length + 1) ≤ 4000000000000000000) = true := by simp; omega
      rw [drop_cons hx, S.withNums] at hs1
      replace hs1 := hid hs1
      replace hs2 := hid (show s.length + ((Lib.itoa x).length + 1) ≤ 100 + 4 * (k + 1) by omega)
      replace hk := hid hk
      clear lx hxb
      have e44 := hs 44 rfl
      have e45 := hs 45 rfl
      have e46 := hs 46 rfl
      clear hs
      simp -dsimp -implicitDefEqProofs at e44 e45 e46
      simp -dsimp -implicitDefEqProofs [-getElem?_pos, -List.map_append, -List.map_set, List.getElem?_cons_zero, List.getElem?_cons_succ, e44, e45, e46, hci, hk', hx]
      refine call_CC (ix.out) ?_
      simp -dsimp -implicitDefEqProofs [-getElem?_pos, -List.map_append, -List.map_set, List.getElem?_cons_zero, List.getElem?_cons_succ, e44, e45, e46, hci, hw', t5, ax, bx]
      exact ⟨_, rfl, hs1.out, by simpa using hs2.out⟩
    · rintro t h m hci hs ⟨⟨s, t5, hs1, hs2⟩, m', rfl⟩
      have e44 := hs 44 rfl
      have e45 := hs 45 rfl
      have e46 := hs 46 rfl
      clear hs
      simp -dsimp -implicitDefEqProofs at e44 e45 e46
      rw [List.drop_length, S.withNums] at hs1
      simp -dsimp -implicitDefEqProofs [-getElem?_pos, -List.map_append, -List.map_set, List.getElem?_cons_zero, List.getElem?_cons_succ, e44, e45, e46, hci, t5]
      exact ends_ti hs1 rfl
  · simp only [if_true, Bool.false_eq_true, if_false, List.append_nil, List.nil_append, List.cons_append, S.withNums] at hr
    replace hr := hid hr
    have bz : decide (w.length + ((Lib.itoa z).length + 1) ≤ 4000000000000000000) = true := by have := lw.out; have := lz.out; have := lp.out; simp; omega
    have bp : decide (w.length + ((Lib.itoa z).length + 1) + ((Lib.itoa p).length + 1) ≤ 4000000000000000000) = true := by have := lw.out; have := lz.out; have := lp.out; simp; omega
    refine C_inline [] Tryd.func8 (fun _ _ => by kernel_rfl) rfl (by kernel_rfl) (by rfl) (by decide) (by rfl) (by rfl) (by rfl) ?_
    simp -dsimp -implicitDefEqProofs [-getElem?_pos, -List.map_append, -List.map_set, List.getElem?_cons_zero, List.getElem?_cons_succ]
    refine call_CC (h1.out) ?_
    simp -dsimp -implicitDefEqProofs [-getElem?_pos, -List.map_append, -List.map_set, List.getElem?_cons_zero, List.getElem?_cons_succ]
    refine call_CC (cmd_words) ?_
    simp -dsimp -implicitDefEqProofs [-getElem?_pos, -List.map_append, -List.map_set, List.getElem?_cons_zero, List.getElem?_cons_succ, hw]
    refine call_CC (h2.out) ?_
    simp -dsimp -implicitDefEqProofs [-getElem?_pos, -List.map_append, -List.map_set, List.getElem?_cons_zero, List.getElem?_cons_succ]
    refine loop_unroll 4 ?_
    simp -dsimp -implicitDefEqProofs [-getElem?_pos, -List.map_append, -List.map_set, List.getElem?_cons_zero, List.getElem?_cons_succ]
    refine call_CC (iz.out) ?_
    simp -dsimp -implicitDefEqProofs [-getElem?_pos, -List.map_append, -List.map_set, List.getElem?_cons_zero, List.getElem?_cons_succ, az, bz]
    refine call_CC (ip.out) ?_
    simp -dsimp -implicitDefEqProofs [-getElem?_pos, -List.map_append, -List.map_set, List.getElem?_cons_zero, List.getElem?_cons_succ, ap, bp]
    refine loop_count 47 d.length (fun k h m t => TextAt (t 5) (d.drop k) r (100 + 4 * k) ∧ ∃ d, m = d + 4) _ rfl (by rfl) ⟨⟨_, rfl, by simpa [List.append_assoc] using hr.out, by simp; have := lw.out; have := lz.out; have := lp.out; omega⟩, ⟨_, rfl⟩⟩ ?_ ?_
    · rintro k t h m hk hci hs ⟨⟨s, t5, hs1, hs2⟩, m', rfl⟩
      have hw' : IntKind.i64.wrap ((k : Int) + 1) = (k : Int) + 1 := wrap_ok (by omega)
      obtain ⟨x, hx⟩ : ∃ x, d[k]? = some x := ⟨d[k], by simp⟩
      have hk' : decide (k < d.length) = true := by simp [hk]
      have hxb := hb.out x (List.mem_of_getElem? hx)
      have ix := hid (itoa_call hxb.1 hxb.2)
      have lx := (S.itoa_facts hxb.1 (by omega)).2.2.2
      have ax : decide (1 + (Lib.itoa x).length ≤ 4000000000000000000) = true := by simp; omega
      have bx : decide (s.length + ((Lib.itoa x).length + 1) ≤ 4000000000000000000) = true := by simp; omega
      rw [drop_cons hx, S.withNums] at hs1
      replace hs1 := hid hs1
      replace hs2 := hid (show s.length + ((Lib.itoa x).length + 1) ≤ 100 + 4 * (k + 1) by omega)
      replace hk := hid hk
      clear lx hxb
      have e44 := hs 44 rfl
      have e45 := hs 45 rfl
      have e46 := hs 46 rfl
      clear hs
      simp -dsimp -implicitDefEqProofs at e44 e45 e46
      simp -dsimp -implicitDefEqProofs [-getElem?_pos, -List.map_append, -List.map_set, List.getElem?_cons_zero, List.getElem?_cons_succ, e44, e45, e46, hci, hk', hx]
      refine call_CC (ix.out) ?_
      simp -dsimp -implicitDefEqProofs [-getElem?_pos, -List.map_append, -List.map_set, List.getElem?_cons_zero, List.getElem?_cons_succ, e44, e45, e46, hci, hw', t5, ax, bx]
      exact ⟨_, rfl, hs1.out, by simpa using hs2.out⟩
    · rintro t h m hci hs ⟨⟨s, t5, hs1, hs2⟩, m', rfl⟩
      have e44 := hs 44 rfl
      have e45 := hs 45 rfl
      have e46 := hs 46 rfl
      clear hs
      simp -dsimp -implicitDefEqProofs at e44 e45 e46
      rw [List.drop_length, S.withNums] at hs1
      simp -dsimp -implicitDefEqProofs [-getElem?_pos, -List.map_append, -List.map_set, List.getElem?_cons_zero, List.getElem?_cons_succ, e44, e45, e46, hci, t5]
      exact ends_ti hs1 rfl
  · simp only [if_true, Bool.false_eq_true, if_false, List.append_nil, List.nil_append, List.cons_append, S.withNums] at hr
    replace hr := hid hr
    have bz : decide (w.length + ((Lib.itoa z).length + 1) ≤ 4000000000000000000) = true := by have := lw.out; have := lz.out; have := lp.out; have := ln.out; simp; omega
    have bp : decide (w.length + ((Lib.itoa z).length + 1) + ((Lib.itoa p).length + 1) ≤ 4000000000000000000) = true := by have := lw.out; have := lz.out; have := lp.out; have := ln.out; simp; omega
    have bn : decide (w.length + ((Lib.itoa z).length + ((Lib.itoa p).length + 1) + 1) + ((Lib.itoa n).length + 1) ≤ 4000000000000000000) = true := by have := lw.out; have := lz.out; have := lp.out; have := ln.out; simp; omega
    refine C_inline [] Tryd.func8 (fun _ _ => by kernel_rfl) rfl (by kernel_rfl) (by rfl) (by decide) (by rfl) (by rfl) (by rfl) ?_
    simp -dsimp -implicitDefEqProofs [-getElem?_pos, -List.map_append, -List.map_set, List.getElem?_cons_zero, List.getElem?_cons_succ]
    refine call_CC (h1.out) ?_
    simp -dsimp -implicitDefEqProofs [-getElem?_pos, -List.map_append, -List.map_set, List.getElem?_cons_zero, List.getElem?_cons_succ]
    refine call_CC (cmd_words) ?_
    simp -dsimp -implicitDefEqProofs [-getElem?_pos, -List.map_append, -List.map_set, List.getElem?_cons_zero, List.getElem?_cons_succ, hw]
    refine call_CC (h2.out) ?_
    simp -dsimp -implicitDefEqProofs [-getElem?_pos, -List.map_append, -List.map_set, List.getElem?_cons_zero, List.getElem?_cons_succ]
    refine loop_unroll 4 ?_
    simp -dsimp -implicitDefEqProofs [-getElem?_pos, -List.map_append, -List.map_set, List.getElem?_cons_zero, List.getElem?_cons_succ]
    refine call_CC (iz.out) ?_
    simp -dsimp -implicitDefEqProofs [-getElem?_pos, -List.map_append, -List.map_set, List.getElem?_cons_zero, List.getElem?_cons_succ, az, bz]
    refine call_CC (ip.out) ?_
    simp -dsimp -implicitDefEqProofs [-getElem?_pos, -List.map_append, -List.map_set, List.getElem?_cons_zero, List.getElem?_cons_succ, ap, bp]
    refine call_CC (in'.out) ?_
    simp -dsimp -implicitDefEqProofs [-getElem?_pos, -List.map_append, -List.map_set, List.getElem?_cons_zero, List.getElem?_cons_succ, an, bn]
    refine loop_count 47 d.length (fun k h m t => TextAt (t 5) (d.drop k) r (100 + 4 * k) ∧ ∃ d, m = d + 4) _ rfl (by rfl) ⟨⟨_, rfl, by simpa [List.append_assoc] using hr.out, by simp; have := lw.out; have := lz.out; have := lp.out; have := ln.out; omega⟩, ⟨_, rfl⟩⟩ ?_ ?_
    · rintro k t h m hk hci hs ⟨⟨s, t5, hs1, hs2⟩, m', rfl⟩
      have hw' : IntKind.i64.wrap ((k : Int) + 1) = (k : Int) + 1 := wrap_ok (by omega)
      obtain ⟨x, hx⟩ : ∃ x, d[k]? = some x := ⟨d[k], by simp⟩
      have hk' : decide (k < d.length) = true := by simp [hk]
      have hxb := hb.out x (List.mem_of_getElem? hx)
      have ix := hid (itoa_call hxb.1 hxb.2)
      have lx := (S.itoa_facts hxb.1 (by omega)).2.2.2
      have ax : decide (1 + (Lib.itoa x).length ≤ 4000000000000000000) = true := by simp; omega
      have bx : decide (s.length + ((Lib.itoa x).length + 1) ≤ 4000000000000000000) = true := by simp; omega
      rw [drop_cons hx, S.withNums] at hs1
      replace hs1 := hid hs1
      replace hs2 := hid (show s.length + ((Lib.itoa x).length + 1) ≤ 100 + 4 * (k + 1) by omega)
      replace hk := hid hk
      clear lx hxb
      have e44 := hs 44 rfl
      have e45 := hs 45 rfl
      have e46 := hs 46 rfl
      clear hs
      simp -dsimp -implicitDefEqProofs at e44 e45 e46
      simp -dsimp -implicitDefEqProofs [-getElem?_pos, -List.map_append, -List.map_set, List.getElem?_cons_zero, List.getElem?_cons_succ, e44, e45, e46, hci, hk', hx]
      refine call_CC (ix.out) ?_
      simp -dsimp -implicitDefEqProofs [-getElem?_pos, -List.map_append, -List.map_set, List.getElem?_cons_zero, List.getElem?_cons_succ, e44, e45, e46, hci, hw', t5, ax, bx]
      exact ⟨_, rfl, hs1.out, by simpa using hs2.out⟩
    · rintro t h m hci hs ⟨⟨s, t5, hs1, hs2⟩, m', rfl⟩
      have e44 := hs 44 rfl
      have e45 := hs 45 rfl
      have e46 := hs 46 rfl
      clear hs
      simp -dsimp -implicitDefEqProofs at e44 e45 e46
      rw [List.drop_length, S.withNums] at hs1
      simp -dsimp -implicitDefEqProofs [-getElem?_pos, -List.map_append, -List.map_set, List.getElem?_cons_zero, List.getElem?_cons_succ, e44, e45, e46, hci, t5]
      exact ends_ti hs1 rfl
  · simp only [if_true, Bool.false_eq_true, if_false, List.append_nil, List.nil_append, List.cons_append, S.withNums] at hr
    replace hr := hid hr
    have bn : decide (w.length + ((Lib.itoa n).length + 1) ≤ 4000000000000000000) = true := by have := lw.out; have := ln.out; simp; omega
    refine C_inline [] Tryd.func8 (fun _ _ => by kernel_rfl) rfl (by kernel_rfl) (by rfl) (by decide) (by rfl) (by rfl) (by rfl) ?_
    simp -dsimp -implicitDefEqProofs [-getElem?_pos, -List.map_append, -List.map_set, List.getElem?_cons_zero, List.getElem?_cons_succ]
    refine call_CC (h1.out) ?_
    simp -dsimp -implicitDefEqProofs [-getElem?_pos, -List.map_append, -List.map_set, List.getElem?_cons_zero, List.getElem?_cons_succ]
    refine call_CC (cmd_words) ?_
    simp -dsimp -implicitDefEqProofs [-getElem?_pos, -List.map_append, -List.map_set, List.getElem?_cons_zero, List.getElem?_cons_succ, hw]
    refine call_CC (h2.out) ?_
    simp -dsimp -implicitDefEqProofs [-getElem?_pos, -List.map_append, -List.map_set, List.getElem?_cons_zero, List.getElem?_cons_succ]
    refine loop_unroll 4 ?_
    simp -dsimp -implicitDefEqProofs [-getElem?_pos, -List.map_append, -List.map_set, List.getElem?_cons_zero, List.getElem?_cons_succ]
    refine call_CC (in'.out) ?_
    simp -dsimp -implicitDefEqProofs [-getElem?_pos, -List.map_append, -List.map_set, List.getElem?_cons_zero, List.getElem?_cons_succ, an, bn]
    refine loop_count 47 d.length (fun k h m t => TextAt (t 5) (d.drop k) r (100 + 4 * k) ∧ ∃ d, m = d + 4) _ rfl (by rfl) ⟨⟨_, rfl, by simpa [List.append_assoc] using hr.out, by simp; have := lw.out; have := ln.out; omega⟩, ⟨_, rfl⟩⟩ ?_ ?_
    · rintro k t h m hk hci hs ⟨⟨s, t5, hs1, hs2⟩, m', rfl⟩
      have hw' : IntKind.i64.wrap ((k : Int) + 1) = (k : Int) + 1 := wrap_ok (by omega)
      obtain ⟨x, hx⟩ : ∃ x, d[k]? = some x := ⟨d[k], by simp⟩
      have hk' : decide (k < d.length) = true := by simp [hk]
      have hxb := hb.out x (List.mem_of_getElem? hx)
      have ix := hid (itoa_call hxb.1 hxb.2)
      have lx := (S.itoa_facts hxb.1 (by omega)).2.2.2
      have ax : decide (1 + (Lib.itoa x).length ≤ 4000000000000000000) = true := by simp; omega
      have bx : decide (s.length + ((Lib.itoa x).length + 1) ≤ 4000000000000000000) = true := by simp; omega
      rw [drop_cons hx, S.withNums] at hs1
      replace hs1 := hid hs1
      replace hs2 := hid (show s.length + ((Lib.itoa x).length + 1) ≤ 100 + 4 * (k + 1) by omega)
      replace hk := hid hk
      clear lx hxb
      have e44 := hs 44 rfl
      have e45 := hs 45 rfl
      have e46 := hs 46 rfl
      clear hs
      simp -dsimp -implicitDefEqProofs at e44 e45 e46
      simp -dsimp -implicitDefEqProofs [-getElem?_pos, -List.map_append, -List.map_set, List.getElem?_cons_zero, List.getElem?_cons_succ, e44, e45, e46, hci, hk', hx]
      refine call_CC (ix.out) ?_
      simp -dsimp -implicitDefEqProofs [-getElem?_pos, -List.map_append, -List.map_set, List.getElem?_cons_zero, List.getElem?_cons_succ, e44, e45, e46, hci, hw', t5, ax, bx]
      exact ⟨_, rfl, hs1.out, by simpa using hs2.out⟩
    · rintro t h m hci hs ⟨⟨s, t5, hs1, hs2⟩, m', rfl⟩
      have e44 := hs 44 rfl
      have e45 := hs 45 rfl
      have e46 := hs 46 rfl
      clear hs
      simp -dsimp -implicitDefEqProofs at e44 e45 e46
      rw [List.drop_length, S.withNums] at hs1
      simp -dsimp -implicitDefEqProofs [-getElem?_pos, -List.map_append, -List.map_set, List.getElem?_cons_zero, List.getElem?_cons_succ, e44, e45, e46, hci, t5]
      exact ends_ti hs1 rfl
  · simp only [if_true, Bool.false_eq_true, if_false, List.append_nil, List.nil_append, List.cons_append, S.withNums] at hr
    replace hr := hid hr
    refine C_inline [] Tryd.func8 (fun _ _ => by kernel_rfl) rfl (by kernel_rfl) (by rfl) (by decide) (by rfl) (by rfl) (by rfl) ?_
    simp -dsimp -implicitDefEqProofs [-getElem?_pos, -List.map_append, -List.map_set, List.getElem?_cons_zero, List.getElem?_cons_succ]
    refine call_CC (h1.out) ?_
    simp -dsimp -implicitDefEqProofs [-getElem?_pos, -List.map_append, -List.map_set, List.getElem?_cons_zero, List.getElem?_cons_succ]
    refine call_CC (cmd_words) ?_
    simp -dsimp -implicitDefEqProofs [-getElem?_pos, -List.map_append, -List.map_set, List.getElem?_cons_zero, List.getElem?_cons_succ, hw]
    refine call_CC (h2.out) ?_
    simp -dsimp -implicitDefEqProofs [-getElem?_pos, -List.map_append, -List.map_set, List.getElem?_cons_zero, List.getElem?_cons_succ]
    refine loop_unroll 4 ?_
    simp -dsimp -implicitDefEqProofs [-getElem?_pos, -List.map_append, -List.map_set, List.getElem?_cons_zero, List.getElem?_cons_succ]
    refine loop_count 47 d.length (fun k h m t => TextAt (t 5) (d.drop k) r (100 + 4 * k) ∧ ∃ d, m = d + 4) _ rfl (by rfl) ⟨⟨_, rfl, by simpa [List.append_assoc] using hr.out, by simp; have := lw.out; omega⟩, ⟨_, rfl⟩⟩ ?_ ?_
    · rintro k t h m hk hci hs ⟨⟨s, t5, hs1, hs2⟩, m', rfl⟩
      have hw' : IntKind.i64.wrap ((k : Int) + 1) = (k : Int) + 1 := wrap_ok (by omega)
      obtain ⟨x, hx⟩ : ∃ x, d[k]? = some x := ⟨d[k], by simp⟩
      have hk' : decide (k < d.length) = true := by simp [hk]
      have hxb := hb.out x (List.mem_of_getElem? hx)
      have ix := hid (itoa_call hxb.1 hxb.2)
      have lx := (S.itoa_facts hxb.1 (by omega)).2.2.2
      have ax : decide (1 + (Lib.itoa x).length ≤ 4000000000000000000) = true := by simp; omega
      have bx : decide (s.length + ((Lib.itoa x).length + 1) ≤ 4000000000000000000) = true := by simp; omega
      rw [drop_cons hx, S.withNums] at hs1
      replace hs1 := hid hs1
      replace hs2 := hid (show s.length + ((Lib.itoa x).length + 1) ≤ 100 + 4 * (k + 1) by omega)
      replace hk := hid hk
      clear lx hxb
      have e44 := hs 44 rfl
      have e45 := hs 45 rfl
      have e46 := hs 46 rfl
      clear hs
      simp -dsimp -implicitDefEqProofs at e44 e45 e46
      simp -dsimp -implicitDefEqProofs [-getElem?_pos, -List.map_append, -List.map_set, List.getElem?_cons_zero, List.getElem?_cons_succ, e44, e45, e46, hci, hk', hx]
      refine call_CC (ix.out) ?_
      simp -dsimp -implicitDefEqProofs [-getElem?_pos, -List.map_append, -List.map_set, List.getElem?_cons_zero, List.getElem?_cons_succ, e44, e45, e46, hci, hw', t5, ax, bx]
      exact ⟨_, rfl, hs1.out, by simpa using hs2.out⟩
    · rintro t h m hci hs ⟨⟨s, t5, hs1, hs2⟩, m', rfl⟩
      have e44 := hs 44 rfl
      have e45 := hs 45 rfl
      have e46 := hs 46 rfl
      clear hs
      simp -dsimp -implicitDefEqProofs at e44 e45 e46
      rw [List.drop_length, S.withNums] at hs1
      simp -dsimp -implicitDefEqProofs [-getElem?_pos, -List.map_append, -List.map_set, List.getElem?_cons_zero, List.getElem?_cons_succ, e44, e45, e46, hci, t5]
      exact ends_ti hs1 rfl

theorem cmd_Print (c : S.Cmd) : C Tryd.prog 8 [.agg (cmdC false c)] (.tup [Tx (S.cmdPrint c).1, Int' (S.cmdPrint c).2]) [] := by
  unfold S.cmdPrint
  by_cases h : S.checkCmd c = 0
  · rw [if_neg (by simp [h])]
    exact cmd_Print_ok c h
  · rw [if_pos h]
    have h1 := cmd_Check c
    generalize S.checkCmd c = e at *
    replace h1 := hid h1
    refine C_inline [] Tryd.func8 (fun _ _ => by kernel_rfl) rfl (by kernel_rfl) (by rfl) (by decide) (by rfl) (by rfl) (by rfl) ?_
    simp -dsimp -implicitDefEqProofs [-getElem?_pos, -List.map_append, -List.map_set, List.getElem?_cons_zero, List.getElem?_cons_succ]
    refine call_CC (h1.out) ?_
    simp -dsimp -implicitDefEqProofs [-getElem?_pos, -List.map_append, -List.map_set, List.getElem?_cons_zero, List.getElem?_cons_succ, h]
    exact ends_ti rfl rfl

end Go.Proofs.YtallmebpmoaopaaDoor.E
