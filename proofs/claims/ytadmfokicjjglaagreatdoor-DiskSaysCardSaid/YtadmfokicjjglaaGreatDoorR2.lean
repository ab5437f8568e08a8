/- R2: Qd: strings.SplitAfter at a line's end; ref.linesOf. Qe: the reference's disks: ref.linesOf to be read, ref.CheckDisk, ref.SameDisk, ref.Recovered, ref.PutOn, ref.Synced. -/
import Derived.Test.YtadmfokicjjglaaGreatDoorR1
import Derived.Test.YtadmfokicjjglaaGreatDoorQ1
import Derived.Test.YtadmfokicjjglaaGreatDoorX5
namespace Go.Proofs.YtadmfokicjjglaaGreatDoor.E
open Go.RowKit Go.Proofs
set_option linter.unusedVariables false
set_option linter.unusedSimpArgs false
set_option maxRecDepth 100000
set_option maxHeartbeats 4000000
theorem VL.four {F : Nat → Prop} {w : World} {a b c d : AV} {vs : List Value} (h : VL 0 noPlace F w [a, b, c, d] vs) : ∃ u v x y, vs = [u, v, x, y] ∧ V 0 noPlace F w a u ∧ V 0 noPlace F w b v ∧ V 0 noPlace F w c x ∧ V 0 noPlace F w d y := by
  obtain ⟨h1, h2⟩ := h
  match vs, h1, h2 with
  | [u, v, x, y], _, h2 => exact ⟨u, v, x, y, rfl, h2 0 _ _ rfl rfl, h2 1 _ _ rfl rfl, h2 2 _ _ rfl rfl, h2 3 _ _ rfl rfl⟩
theorem strings_genSplit (l : List UInt8) (hl : l.length ≤ 1000000) : C Tryz.prog 139 [Tx l, Tx [10], Int' 1, Int' (-1)] (.lst true 1 (Txs (S.after 10 l))) [] := by
  refine C_lib (fun _ _ => by kernel_rfl) rfl fun F w vs hG hv => ?_
  obtain ⟨u, v, x, y, rfl, hu, hq, hx, hy⟩ := hv.four
  cases V_at hu; cases V_at hq; cases V_at hx; cases V_at hy
  obtain ⟨m, hm⟩ := glob_max hG
  have hs := tx_size l
  have hlen := Lib.splitB_all ⟨([10] : List UInt8).toArray⟩ (by decide) 1 _ ⟨l.toArray⟩ rfl
  have hle := Lib.countB_le ⟨([10] : List UInt8).toArray⟩ (by decide) (⟨l.toArray⟩ : ByteArray).size ⟨l.toArray⟩ (Nat.le_refl _)
  have hd := Lib.splitB_data ⟨([10] : List UInt8).toArray⟩ 1 (Lib.countB ⟨l.toArray⟩ ⟨([10] : List UInt8).toArray⟩) ⟨l.toArray⟩
  refine (Tryz.strings_genSplit ⟨l.toArray⟩ ⟨([10] : List UInt8).toArray⟩ 1 (-1) (Lib.countB ⟨l.toArray⟩ ⟨([10] : List UInt8).toArray⟩ + 1) m w (by omega) hm (by decide) (by decide) (by decide) (by decide) (by rw [if_pos (by decide)]; omega)).mono ?_
  rintro e w' ⟨rfl, rfl⟩
  rw [Nat.add_sub_cancel]
  have e2 : Lib.cellsOf (Lib.splitB ⟨([10] : List UInt8).toArray⟩ 1 (Lib.countB ⟨l.toArray⟩ ⟨([10] : List UInt8).toArray⟩) ⟨l.toArray⟩) (Lib.countB ⟨l.toArray⟩ ⟨([10] : List UInt8).toArray⟩ + 1) = ((Lib.splitB ⟨([10] : List UInt8).toArray⟩ 1 (Lib.countB ⟨l.toArray⟩ ⟨([10] : List UInt8).toArray⟩) ⟨l.toArray⟩).map Value.string).toArray := by rw [← hlen]; exact Lib.cellsOf_full _
  rw [e2]
  refine ⟨_, rfl, (Below.refl _ _).alloc (Nat.le_refl _) _, ?_⟩
  have := V_txs (w := w) (ss := Lib.splitB ⟨([10] : List UInt8).toArray⟩ 1 (Lib.countB ⟨l.toArray⟩ ⟨([10] : List UInt8).toArray⟩) ⟨l.toArray⟩) (cap := Lib.countB ⟨l.toArray⟩ ⟨([10] : List UInt8).toArray⟩ + 1) (w' := w.alloc (.cells ((Lib.splitB ⟨([10] : List UInt8).toArray⟩ 1 (Lib.countB ⟨l.toArray⟩ ⟨([10] : List UInt8).toArray⟩) ⟨l.toArray⟩).map Value.string).toArray 9)) (by simp) (by omega) (by simp only [maxLen]; omega) (heap_alloc_new w _) (fun j s hj => by simp [hj])
  rw [hd] at this
  have e3 : Lib.splitK [10] 1 (Lib.count l [10]) l = S.after 10 l := S.split_after 10 l
  rw [← e3]
  exact this
theorem strings_SplitAfter (l : List UInt8) (hl : l.length ≤ 1000000) : C Tryz.prog 106 [Tx l, Tx [10]] (.lst true 1 (Txs (S.after 10 l))) [] := by
  have h := hid (strings_genSplit l hl)
  refine C_inline [] Tryz.func106 (fun _ _ => by kernel_rfl) rfl (by kernel_rfl) (by rfl) (by decide) (by rfl) (by rfl) (by rfl) ?_
  simp -dsimp -implicitDefEqProofs [-getElem?_pos, -List.map_append, -List.map_set, List.getElem?_cons_zero, List.getElem?_cons_succ]
  refine call_CC (h.out) ?_
  simp -dsimp -implicitDefEqProofs [-getElem?_pos, -List.map_append, -List.map_set, List.getElem?_cons_zero, List.getElem?_cons_succ]
  exact ⟨⟨_, rfl, .refl _⟩, rfl⟩
theorem suffix_in (x : List UInt8) : Lib.hasSuffix (x ++ [10]) [10] = true := by
  unfold Lib.hasSuffix
  simp
theorem suffix_out {x : List UInt8} (h : (10 : UInt8) ∉ x) : Lib.hasSuffix x [10] = false := by
  cases hb : Lib.hasSuffix x [10] with
  | false => rfl
  | true =>
    unfold Lib.hasSuffix at hb
    obtain ⟨t, ht⟩ := List.isSuffixOf_iff_suffix.1 hb
    exact absurd (by rw [← ht]; simp) h
def LinesAtR (ts : List (List UInt8)) (m : Nat) (h : Heap) (t7 t8 : AV) (most : Int) (k n : Nat) (q : List S.Rec × Nat × Int) : Prop :=
  ∃ (acc : List S.Rec) (rest : List UInt8) (b : Nat), S.after 10 rest = ts.drop k ∧ t8 = Int' b ∧ b + rest.length = n ∧ OwnR [] m h t7 51 7 (acc.map (recC false)) ∧ (acc = [] → t7 = .nl) ∧ acc.length ≤ b ∧ (acc.length : Int) ≤ most ∧ (acc ++ (S.lines rest (most - acc.length)).1, (S.lines rest (most - acc.length)).2) = q
theorem ref_linesOf_CS (s : List UInt8) (most : Int) (hsl : s.length ≤ 60000) (h0m : 0 ≤ most) : CS Tryz.prog 69 [Tx s, Int' most] (fun _ => none) 0 (LinesOut (S.lines s most) s.length) := by
  obtain ⟨q, hq⟩ : ∃ q, S.lines s most = q := ⟨_, rfl⟩
  rw [hq]
  replace hq := hid hq
  have hsp := hid (strings_SplitAfter s (by omega))
  have hal := S.after_len 10 s
  obtain ⟨ts, hts⟩ : ∃ ts, S.after 10 s = ts := ⟨_, rfl⟩
  rw [hts] at hsp hal
  replace hsl := hid hsl
  replace hal := hid hal
  replace hts := hid hts
  refine CS_inline (typesOk _) Tryz.func69 (fun _ _ => by kernel_rfl) rfl (by kernel_rfl) (Nat.le_of_ble_eq_true rfl) ?_
  simp -dsimp -implicitDefEqProofs [-getElem?_pos, -List.map_append, -List.map_set, List.getElem?_cons_zero, List.getElem?_cons_succ]
  refine call_CC (hsp.out) ?_
  simp -dsimp -implicitDefEqProofs [-getElem?_pos, -List.map_append, -List.map_set, List.getElem?_cons_zero, List.getElem?_cons_succ]
  refine loop_count 16 ts.length (fun k h m t => LinesAtR ts m h (t 7) (t 8) most k s.length q ∧ ∃ d, m = d + 36) _ (by rfl) (by rfl) ⟨⟨[], s, 0, by simpa using hts.out, rfl, by simp, .inl ⟨rfl, rfl⟩, fun _ => rfl, by simp, by simpa using h0m, by simpa using hq.out⟩, ⟨_, rfl⟩⟩ ?_ ?_
  · rintro k t h m hk hci hs ⟨⟨acc, rest, b, haf, t8, hb, hown, hnl, hab, ham, hl⟩, d, rfl⟩
    have hw1 : IntKind.i64.wrap ((k : Int) + 1) = (k : Int) + 1 := wrap_ok (by have := hal.out; have := hsl.out; omega)
    have hk' : decide (k < ts.length) = true := by simp [hk]
    obtain ⟨x, hx⟩ : ∃ x, ts[k]? = some x := ⟨ts[k], by simp⟩
    rw [drop_cons hx] at haf
    have e1 := hs 1 rfl
    have e14 := hs 14 rfl
    have e15 := hs 15 rfl
    clear hs
    simp -dsimp -implicitDefEqProofs at e1 e14 e15
    replace hk := hid hk
    rcases S.after_first haf with ⟨hc, rfl, hnil⟩ | ⟨u, y, hc, rfl, hy⟩
    · by_cases hne : x = []
      · subst hne
        rw [S.lines_nil] at hl
        simp only [List.append_nil] at hl
        subst hl
        simp -dsimp -implicitDefEqProofs [-getElem?_pos, -List.map_append, -List.map_set, List.getElem?_cons_zero, List.getElem?_cons_succ, e1, e14, e15, hci, hk', hx, t8]
        exact lines_out (hown.mono (no' := []) (fun i hi _ => by repeat (first | rfl | rw [upd_ne _ _ (by omega)])) (by omega) (fun _ h => .inl h)) hnl (by first | omega | (simp at hb; omega) | (simp at hb ⊢; omega)) rfl
      · have hs10 := strings_HasSuffix x [10] (by have := hsl.out; omega)
        rw [suffix_out (S.cut1_none.1 hc)] at hs10
        rw [S.lines_none _ hne hc] at hl
        simp only [List.append_nil] at hl
        subst hl
        replace hs10 := hid hs10
        simp -dsimp -implicitDefEqProofs [-getElem?_pos, -List.map_append, -List.map_set, List.getElem?_cons_zero, List.getElem?_cons_succ, e1, e14, e15, hci, hk', hx, hne]
        refine call_CC (hs10.out) ?_
        simp -dsimp -implicitDefEqProofs [-getElem?_pos, -List.map_append, -List.map_set, List.getElem?_cons_zero, List.getElem?_cons_succ, e1, e14, e15, t8]
        exact lines_out (hown.mono (no' := []) (fun i hi _ => by repeat (first | rfl | rw [upd_ne _ _ (by omega)])) (by omega) (fun _ h => .inl h)) hnl (by first | omega | (simp at hb; omega) | (simp at hb ⊢; omega)) rfl
    · have hlen := S.cut1_len hc
      have hs10 := strings_HasSuffix (u ++ [10]) [10] (by simp; have := hsl.out; omega)
      rw [suffix_in] at hs10
      rw [S.lines_some _ hc] at hl
      have cr := ref_RecRead u (by have := hsl.out; omega)
      obtain ⟨⟨r, e⟩, hp⟩ : ∃ p, S.recParse u = p := ⟨_, rfl⟩
      rw [hp] at hl cr
      simp only at hl cr
      have hw2 : IntKind.i64.wrap (u.length : Int) = (u.length : Int) := wrap_ok (by have := hsl.out; omega)
      have hw3 : IntKind.i64.wrap ((b : Int) + ((u.length : Int) + 1)) = (b : Int) + ((u.length : Int) + 1) := wrap_ok (by have := hsl.out; omega)
      replace hs10 := hid hs10
      replace cr := hid cr
      clear hp hc haf
      by_cases he : e = 0
      · subst he
        rw [if_neg (by simp)] at hl
        by_cases hm : (acc.length : Int) = most
        · rw [if_pos (by omega)] at hl
          simp only [List.append_nil] at hl
          subst hl
          have hge : decide (most ≤ (acc.length : Int)) = true := by simp; omega
          have hmono := hown
          rcases hown with ⟨t7, hn⟩ | ⟨i, t7, hno, his, hi⟩
          · have hac : acc = [] := by simpa using hn
            subst hac
            clear hn
            simp only [List.length_nil, Int.natCast_zero] at hm hge
            subst hm
            simp -dsimp -implicitDefEqProofs [-getElem?_pos, -List.map_append, -List.map_set, List.getElem?_cons_zero, List.getElem?_cons_succ, e1, e14, e15, hci, hk', hx]
            refine call_CC (hs10.out) ?_
            simp -dsimp -implicitDefEqProofs [-getElem?_pos, -List.map_append, -List.map_set, List.getElem?_cons_zero, List.getElem?_cons_succ, e1, e14, e15, hw2]
            refine call_CC (cr.out) ?_
            simp -dsimp -implicitDefEqProofs [-getElem?_pos, -List.map_append, -List.map_set, List.getElem?_cons_zero, List.getElem?_cons_succ, e1, e14, e15, t7, t8]
            exact lines_out (acc := []) (.inl ⟨rfl, rfl⟩) (fun _ => rfl) (by first | omega | (simp at hb; omega) | (simp at hb ⊢; omega)) rfl
          · simp -dsimp -implicitDefEqProofs [-getElem?_pos, -List.map_append, -List.map_set, List.getElem?_cons_zero, List.getElem?_cons_succ, e1, e14, e15, hci, hk', hx]
            refine call_CC (hs10.out) ?_
            simp -dsimp -implicitDefEqProofs [-getElem?_pos, -List.map_append, -List.map_set, List.getElem?_cons_zero, List.getElem?_cons_succ, e1, e14, e15, hw2]
            refine call_CC (cr.out) ?_
            simp -dsimp -implicitDefEqProofs [-getElem?_pos, -List.map_append, -List.map_set, List.getElem?_cons_zero, List.getElem?_cons_succ, e1, e14, e15, t7, t8, hge]
            rw [t7, List.length_map] at hmono; rw [List.length_map] at t7
            exact lines_out (hmono.mono (no' := []) (fun i hi _ => by repeat (first | rfl | rw [upd_ne _ _ (by omega)])) (by omega) (fun _ h => .inl h)) (fun g => by rw [← t7]; exact hnl g) (by omega) rfl
        · rw [if_neg (by omega)] at hl
          have hge : decide (most ≤ (acc.length : Int)) = false := by simp; omega
          have hl2 := hid hl
          have hlt : (acc.length : Int) + 1 ≤ most := by omega
          have e8 : ((b + (u.length + 1) : Nat) : Int) = (b : Int) + ((u.length : Int) + 1) := by omega
          have hby : b + (u.length + 1) + y.length = s.length := by omega
          clear hl hlen hb
          rcases hown with ⟨t7, hn⟩ | ⟨i, t7, hno, his, hi⟩
          · have hac : acc = [] := by simpa using hn
            subst hac
            clear hn
            simp only [List.length_nil, Int.natCast_zero] at hge hlt
            simp -dsimp -implicitDefEqProofs [-getElem?_pos, -List.map_append, -List.map_set, List.getElem?_cons_zero, List.getElem?_cons_succ, e1, e14, e15, hci, hk', hx]
            refine call_CC (hs10.out) ?_
            simp -dsimp -implicitDefEqProofs [-getElem?_pos, -List.map_append, -List.map_set, List.getElem?_cons_zero, List.getElem?_cons_succ, e1, e14, e15, hw2]
            refine call_CC (cr.out) ?_
            simp -dsimp -implicitDefEqProofs [-getElem?_pos, -List.map_append, -List.map_set, List.getElem?_cons_zero, List.getElem?_cons_succ, e1, e14, e15, hci, t7, t8, hge, hw1, hw3]
            exact ⟨[r], y, b + (u.length + 1), hy, by rw [e8], hby, .inr ⟨_, rfl, by simp, by omega, by simp -dsimp -implicitDefEqProofs⟩, fun g => (by simp at g), by simp; omega, by simp; omega, by simpa using hl2.out⟩
          · have hz : decide (acc.length ≤ 100000000) = true := by have := hsl.out; simp; omega
            simp -dsimp -implicitDefEqProofs [-getElem?_pos, -List.map_append, -List.map_set, List.getElem?_cons_zero, List.getElem?_cons_succ, e1, e14, e15, hci, hk', hx]
            refine call_CC (hs10.out) ?_
            simp -dsimp -implicitDefEqProofs [-getElem?_pos, -List.map_append, -List.map_set, List.getElem?_cons_zero, List.getElem?_cons_succ, e1, e14, e15, hw2]
            refine call_CC (cr.out) ?_
            simp -dsimp -implicitDefEqProofs [-getElem?_pos, -List.map_append, -List.map_set, List.getElem?_cons_zero, List.getElem?_cons_succ, e1, e14, e15, hci, t7, t8, hge, hw1, hw3, hi, hz, ap0 his, ap1 his, ap2 his, ap3 his, ap4 his, ap5 his, ap6 his, ap7 his, ap8 his, ap9 his, ap10 his, ap11 his, ap12 his, ap13 his, ap14 his, ap15 his, ap16 his, ap17 his]
            exact ⟨acc ++ [r], y, b + (u.length + 1), hy, by rw [e8], hby, .inr ⟨d + 36 + 4 + 12 + 8 + 12 + 48 + 32 + 8 + 12, by simp, by simp, by omega, by simp -dsimp -implicitDefEqProofs⟩, fun g => (by simp at g), by simp; omega, by simp; omega, by have := hl2.out; simpa [Int.sub_sub] using this⟩
      · rw [if_pos he] at hl
        simp only [List.append_nil] at hl
        subst hl
        have he' : decide (e = 0) = false := by simp [he]
        simp -dsimp -implicitDefEqProofs [-getElem?_pos, -List.map_append, -List.map_set, List.getElem?_cons_zero, List.getElem?_cons_succ, e1, e14, e15, hci, hk', hx]
        refine call_CC (hs10.out) ?_
        simp -dsimp -implicitDefEqProofs [-getElem?_pos, -List.map_append, -List.map_set, List.getElem?_cons_zero, List.getElem?_cons_succ, e1, e14, e15, hw2]
        refine call_CC (cr.out) ?_
        simp -dsimp -implicitDefEqProofs [-getElem?_pos, -List.map_append, -List.map_set, List.getElem?_cons_zero, List.getElem?_cons_succ, e1, e14, e15, t8, he']
        exact lines_out (hown.mono (no' := []) (fun i hi _ => by repeat (first | rfl | rw [upd_ne _ _ (by omega)])) (by omega) (fun _ h => .inl h)) hnl (by first | omega | (simp at hb; omega) | (simp at hb ⊢; omega)) rfl
  · rintro t h m hci hs ⟨⟨acc, rest, b, haf, -⟩, -⟩
    rw [List.drop_length, S.after_cut] at haf
    split at haf <;> cases haf
end Go.Proofs.YtadmfokicjjglaaGreatDoor.E
namespace Go.Proofs.YtadmfokicjjglaaGreatDoor.E
open Go.RowKit Go.Proofs
set_option linter.unusedVariables false
set_option linter.unusedSimpArgs false
set_option maxRecDepth 100000
set_option maxHeartbeats 4000000
theorem ref_linesOf (s : List UInt8) (most : Int) (hs : s.length ≤ 60000) (h0 : 0 ≤ most) : C Tryz.prog 69 [Tx s, Int' most] (.tup [.lst false 7 ((S.lines s most).1.map (recC false)), Int' ((s.length : Int) - (S.lines s most).2.1), Int' (S.lines s most).2.2]) [] := by
  refine C_of (S := Sub) (fun h hv => Sub.v h hv) [] (by decide) rfl rfl rfl ((ref_linesOf_CS s most hs h0).mono' ?_)
  rintro h n r ⟨v, rfl, ho, -⟩
  exact ends_lii (n := n) (ho.out recs_plain recs_unfr) rfl rfl
theorem ref_CheckDisk (d : S.Disk) : C Tryz.prog 19 [.agg (diskC false d)] (Int' (S.checkDisk d)) [] := by
  refine C_real (fun _ _ => by kernel_rfl) rfl rfl fun hr => ?_
  have hx := ((hr.get (j := 0) rfl).field (j := 0) rfl).len
  have hy := ((hr.get (j := 0) rfl).field (j := 1) rfl).len
  clear hr
  rw [B8_length] at hx hy
  unfold maxLen at hx hy
  obtain ⟨a, b⟩ := d
  simp only at hx hy
  unfold S.checkDisk
  simp only
  by_cases h1 : 60000 < a.length
  · rw [if_pos (.inl h1)]
    have h1' : decide ((60000 : Int) < (a.length : Int)) = true := by simp; omega
    refine C_inline [] Tryz.func19 (fun _ _ => by kernel_rfl) rfl (by kernel_rfl) (by rfl) (by decide) (by rfl) (by rfl) (by rfl) ?_
    simp -dsimp -implicitDefEqProofs [-getElem?_pos, -List.map_append, -List.map_set, List.getElem?_cons_zero, List.getElem?_cons_succ, h1']
    exact ends_int rfl
  · have h1' : decide ((60000 : Int) < (a.length : Int)) = false := by simp; omega
    have hw : IntKind.i64.wrap ((60000 : Int) - a.length) = (60000 : Int) - a.length := wrap_ok (by omega)
    by_cases h2 : 60000 < b.length + a.length
    · rw [if_pos (.inr h2)]
      have h2' : decide ((60000 : Int) - a.length < (b.length : Int)) = true := by simp; omega
      refine C_inline [] Tryz.func19 (fun _ _ => by kernel_rfl) rfl (by kernel_rfl) (by rfl) (by decide) (by rfl) (by rfl) (by rfl) ?_
      simp -dsimp -implicitDefEqProofs [-getElem?_pos, -List.map_append, -List.map_set, List.getElem?_cons_zero, List.getElem?_cons_succ, h1', hw, h2']
      exact ends_int rfl
    · rw [if_neg (by omega)]
      have h2' : decide ((60000 : Int) - a.length < (b.length : Int)) = false := by simp; omega
      have cl := hid (ref_linesOf a 80 (by omega) (by omega))
      generalize S.lines a 80 = q at *
      clear hx hy h1 h2
      refine C_inline [] Tryz.func19 (fun _ _ => by kernel_rfl) rfl (by kernel_rfl) (by rfl) (by decide) (by rfl) (by rfl) (by rfl) ?_
      simp -dsimp -implicitDefEqProofs [-getElem?_pos, -List.map_append, -List.map_set, List.getElem?_cons_zero, List.getElem?_cons_succ, h1', hw, h2']
      refine call_CC (cl.out) ?_
      simp -dsimp -implicitDefEqProofs [-getElem?_pos, -List.map_append, -List.map_set, List.getElem?_cons_zero, List.getElem?_cons_succ]
      exact ends_int rfl
theorem ref_SameDisk (a b : S.Disk) : C Tryz.prog 23 [.agg (diskC false a), .agg (diskC false b)] (Bool' (decide (a = b))) [] := by
  obtain ⟨a, c⟩ := a
  obtain ⟨b, d⟩ := b
  have e : decide ((⟨a, c⟩ : S.Disk) = ⟨b, d⟩) = (decide (a = b) && decide (c = d)) := by simp [Bool.decide_and]
  rw [e]
  have h1 := hid (equal_bytes a b)
  have h2 := hid (equal_bytes c d)
  generalize decide (a = b) = x at *
  generalize decide (c = d) = y at *
  cases x
  · refine C_inline [] Tryz.func23 (fun _ _ => by kernel_rfl) rfl (by kernel_rfl) (by rfl) (by decide) (by rfl) (by rfl) (by rfl) ?_
    simp -dsimp -implicitDefEqProofs [-getElem?_pos, -List.map_append, -List.map_set, List.getElem?_cons_zero, List.getElem?_cons_succ]
    refine call_CC (h1.out) ?_
    simp -dsimp -implicitDefEqProofs [-getElem?_pos, -List.map_append, -List.map_set, List.getElem?_cons_zero, List.getElem?_cons_succ]
    exact ends_bool rfl
  · refine C_inline [] Tryz.func23 (fun _ _ => by kernel_rfl) rfl (by kernel_rfl) (by rfl) (by decide) (by rfl) (by rfl) (by rfl) ?_
    simp -dsimp -implicitDefEqProofs [-getElem?_pos, -List.map_append, -List.map_set, List.getElem?_cons_zero, List.getElem?_cons_succ]
    refine call_CC (h1.out) ?_
    simp -dsimp -implicitDefEqProofs [-getElem?_pos, -List.map_append, -List.map_set, List.getElem?_cons_zero, List.getElem?_cons_succ]
    refine call_CC (h2.out) ?_
    simp -dsimp -implicitDefEqProofs [-getElem?_pos, -List.map_append, -List.map_set, List.getElem?_cons_zero, List.getElem?_cons_succ]
    exact ends_bool rfl
theorem ends_al {h : Heap} {n : Nat} {cells target : List AV} {v l : AV} (ho : OutL h cells target) (hl : OutL h [v] [l]) (hv : outAgg h [] v = outLeaf h [] v) : Ends [] (.tup [.agg target, l]) [] h n (.tup [.agg cells, v]) := by
  obtain ⟨cells', ho, hs⟩ := ho
  obtain ⟨l', hl, hs2⟩ := hl
  rw [List.mapM_cons] at hl
  cases hq : outLeaf h [] v with
  | none => rw [hq] at hl; cases hl
  | some z =>
    rw [hq] at hl
    cases hl
    refine ⟨⟨.tup [.agg cells', z], ?_, .tup (.cons (.agg hs) (.cons (.leaf ?_) (.nil _)))⟩, rfl⟩
    · have e1 : outAgg h [] (.agg cells) = some (.agg cells') := by
        show (cells.mapM (outLeaf h [])).map AV.agg = _
        rw [ho]; rfl
      show (List.mapM (outAgg h []) [_, _]).map AV.tup = _
      rw [List.mapM_cons, e1, List.mapM_cons, hv, hq]
      rfl
    · exact hs2.2 0 _ _ rfl rfl
theorem ref_Recovered (d : S.Disk) (h : S.checkDisk d = 0) : C Tryz.prog 26 [.agg (diskC false d)] (.tup [.agg (diskC true (S.recoverDisk d).1), .lst false 7 ((S.recoverDisk d).2.1.map (recC false))]) [] := by
  unfold S.recoverDisk
  rw [if_neg (by simp [h])]
  obtain ⟨k1, k2, -⟩ := checkDisk_ok h
  obtain ⟨a, b⟩ := d
  unfold S.kept
  simp only at k1 k2 ⊢
  have l1 := ref_linesOf a 80 (by omega) (by omega)
  have r1 := S.lines_room a (m := 80) (by omega)
  generalize S.lines a 80 = p at *
  obtain ⟨xs, left1, e1⟩ := p
  simp only at l1 r1 ⊢
  have l2 := ref_linesOf b (80 - (xs.length : Int)) (by omega) (by omega)
  have r2 := S.lines_room b (m := 80 - (xs.length : Int)) (by omega)
  have r3 := (S.lines_left b (80 - (xs.length : Int))).1
  generalize S.lines b (80 - (xs.length : Int)) = q at *
  obtain ⟨ys, left2, e2⟩ := q
  simp only at l2 r2 r3 ⊢
  have em : (b.length : Int) - left2 = ((b.length - left2 : Nat) : Int) := by omega
  rw [em] at l2
  have hm : b.length - left2 ≤ b.length := by omega
  generalize b.length - left2 = m at *
  have hw : IntKind.i64.wrap ((80 : Int) - xs.length) = (80 : Int) - xs.length := wrap_ok (by omega)
  have c1 := hid (concat_bytes a (b.take m) (by omega) (by simp; omega))
  have w1 : IntKind.i64.wrap (xs.length : Int) = xs.length := wrap_ok (by omega)
  have w2 : IntKind.i64.wrap ((xs.length : Int) + ys.length) = (xs.length : Int) + ys.length := wrap_ok (by omega)
  have d1 : decide ((xs.length : Int) < 0) = false := by simp
  have d2 : decide ((xs.length : Int) + ys.length < 0) = false := by simp; omega
  have d3 : decide (100000000 < xs.length) = false := by simp; omega
  have d4 : decide (100000000 < ys.length) = false := by simp; omega
  have d5 : xs.length ≤ 100000000 := by omega
  have hg := grow_recs (xs.length + ys.length) (by omega)
  simp only [Int.natCast_add] at hg
  replace hg := hid hg
  replace l1 := hid l1
  replace l2 := hid l2
  clear r1 r2 r3 em h k1 k2
  refine C_of (S := Sub) (fun h hv => Sub.v h hv) [] (by decide) rfl rfl rfl (CS_inlineZ (typesOk _) [] 3 12 none Tryz.func26 (fun _ _ => by kernel_rfl) rfl (by kernel_rfl) (Nat.le_of_ble_eq_true rfl) ?_)
  simp -dsimp -implicitDefEqProofs [-getElem?_pos, -List.map_append, -List.map_set, List.getElem?_cons_zero, List.getElem?_cons_succ]
  refine call_CC (l1.out) ?_
  simp -dsimp -implicitDefEqProofs [-getElem?_pos, -List.map_append, -List.map_set, List.getElem?_cons_zero, List.getElem?_cons_succ, hw]
  refine call_CC (l2.out) ?_
  simp -dsimp -implicitDefEqProofs [-getElem?_pos, -List.map_append, -List.map_set, List.getElem?_cons_zero, List.getElem?_cons_succ, hm]
  refine call_CC (c1.out) ?_
  simp -dsimp -implicitDefEqProofs [-getElem?_pos, -List.map_append, -List.map_set, List.getElem?_cons_zero, List.getElem?_cons_succ, hm]
  refine call_CS (CS_inline (typesOk _) Tryz.func73 (fun _ _ => by kernel_rfl) rfl (by kernel_rfl) (Nat.le_of_ble_eq_true rfl) ?_)
  simp -dsimp -implicitDefEqProofs [-getElem?_pos, -List.map_append, -List.map_set, List.getElem?_cons_zero, List.getElem?_cons_succ]
  refine loop_unroll 3 ?_
  simp -dsimp -implicitDefEqProofs [-getElem?_pos, -List.map_append, -List.map_set, List.getElem?_cons_zero, List.getElem?_cons_succ, w1, w2, d1, d2]
  refine call_CC (hg.out) ?_
  simp -dsimp -implicitDefEqProofs [-getElem?_pos, -List.map_append, -List.map_set, List.getElem?_cons_zero, List.getElem?_cons_succ]
  refine loop_unroll 3 ?_
  simp -dsimp -implicitDefEqProofs [-getElem?_pos, -List.map_append, -List.map_set, List.getElem?_cons_zero, List.getElem?_cons_succ, d3, d4, d5]
  exact ends_al (n := 0) (OutL.lst (fun h => h) (OutL.nl (OutL.nil _))) (OutL.recs rfl ⟨rfl, by simp⟩ (by simp) (OutL.nil _)) rfl
theorem ref_PutOn (d : S.Disk) (r : S.Rec) (h : S.checkDisk d = 0) : C Tryz.prog 24 [.agg (diskC false d), .agg (recC false r)] (.tup [.agg (diskC false (S.putDisk d r).1), Int' (S.putDisk d r).2]) [] := by
  unfold S.putDisk
  rw [if_neg (by simp [h])]
  obtain ⟨k1, k2, -⟩ := checkDisk_ok h
  have hp := ref_RecText r
  unfold S.recPrint at hp
  by_cases hr : S.checkRec r = 0
  rotate_left
  · rw [if_pos hr]
    rw [if_pos hr] at hp
    generalize S.checkRec r = e at *
    have he : decide (e = 0) = false := by simp [hr]
    replace hp := hid hp
    refine C_inline [] Tryz.func24 (fun _ _ => by kernel_rfl) rfl (by kernel_rfl) (by rfl) (by decide) (by rfl) (by rfl) (by rfl) ?_
    simp -dsimp -implicitDefEqProofs [-getElem?_pos, -List.map_append, -List.map_set, List.getElem?_cons_zero, List.getElem?_cons_succ]
    refine call_CC (hp.out) ?_
    simp -dsimp -implicitDefEqProofs [-getElem?_pos, -List.map_append, -List.map_set, List.getElem?_cons_zero, List.getElem?_cons_succ, he]
    exact ends_ag outL rfl
  rw [if_neg (by simp [hr])] at hp
  rw [if_neg (by simp [hr])]
  have hlen := S.recText_len hr
  generalize S.recText r = t at *
  replace hp := hid hp
  obtain ⟨a, b⟩ := d
  simp only at k1 k2 ⊢
  have w1 : IntKind.i64.wrap ((a.length : Int) + b.length) = (a.length : Int) + b.length := wrap_ok (by omega)
  have w2 : IntKind.i64.wrap ((a.length : Int) + b.length + t.length) = (a.length : Int) + b.length + t.length := wrap_ok (by omega)
  have w3 : IntKind.i64.wrap ((a.length : Int) + b.length + t.length + 1) = (a.length : Int) + b.length + t.length + 1 := wrap_ok (by omega)
  by_cases h2 : 60000 < t.length + 1 + a.length + b.length
  · rw [if_pos h2]
    have h2' : decide ((60000 : Int) < (a.length : Int) + b.length + t.length + 1) = true := by simp; omega
    refine C_inline [] Tryz.func24 (fun _ _ => by kernel_rfl) rfl (by kernel_rfl) (by rfl) (by decide) (by rfl) (by rfl) (by rfl) ?_
    simp -dsimp -implicitDefEqProofs [-getElem?_pos, -List.map_append, -List.map_set, List.getElem?_cons_zero, List.getElem?_cons_succ]
    refine call_CC (hp.out) ?_
    simp -dsimp -implicitDefEqProofs [-getElem?_pos, -List.map_append, -List.map_set, List.getElem?_cons_zero, List.getElem?_cons_succ, w1, w2, w3, h2']
    exact ends_ag outL rfl
  · rw [if_neg h2]
    have h2' : decide ((60000 : Int) < (a.length : Int) + b.length + t.length + 1) = false := by simp; omega
    have c1 := concat_bytes b (t ++ [10]) (by omega) (by simp; omega)
    rw [← List.append_assoc] at c1
    replace c1 := hid c1
    have f1 : t.length ≤ 3999999999999999999 := by omega
    have f2 : t.length + 1 ≤ 1000000 := by omega
    have f3 : decide (t.length ≤ 3999999999999999999) = true := by simp; omega
    have f4 : decide (t.length ≤ 999999) = true := by simp; omega
    clear h h2 hr hlen k1 k2
    refine C_inline [] Tryz.func24 (fun _ _ => by kernel_rfl) rfl (by kernel_rfl) (by rfl) (by decide) (by rfl) (by rfl) (by rfl) ?_
    simp -dsimp -implicitDefEqProofs [-getElem?_pos, -List.map_append, -List.map_set, List.getElem?_cons_zero, List.getElem?_cons_succ]
    refine call_CC (hp.out) ?_
    simp -dsimp -implicitDefEqProofs [-getElem?_pos, -List.map_append, -List.map_set, List.getElem?_cons_zero, List.getElem?_cons_succ, w1, w2, w3, h2', f1, f2, f3, f4]
    refine call_CC (c1.out) ?_
    simp -dsimp -implicitDefEqProofs [-getElem?_pos, -List.map_append, -List.map_set, List.getElem?_cons_zero, List.getElem?_cons_succ]
    exact ends_ag outL rfl
theorem check_catR (l : List UInt8) : C Tryz.prog 19 [.agg [.lst false 1 (B8 l), .nl]] (Int' (S.checkDisk ⟨l, []⟩)) [] :=
  (ref_CheckDisk ⟨l, []⟩).args (.cons (.agg (.cons (.refl _) (.cons .nl (.nil _)))) (.nil _))
theorem ref_Synced (d : S.Disk) (h : S.checkDisk d = 0) : C Tryz.prog 25 [.agg (diskC false d)] (.tup [.agg (diskC true (S.syncDisk d).1), Int' (S.syncDisk d).2]) [] := by
  unfold S.syncDisk
  rw [if_neg (by simp [h])]
  obtain ⟨k1, k2, -⟩ := checkDisk_ok h
  obtain ⟨a, b⟩ := d
  simp only at k1 k2 ⊢
  have c1 := hid (concat_bytes a b (by omega) (by omega))
  have c2 := check_catR (a ++ b)
  generalize a ++ b = l at *
  clear k1 k2 h
  by_cases h : S.checkDisk ⟨l, []⟩ = 0
  · rw [if_neg (by simp [h])]
    rw [h] at c2
    replace c2 := hid c2
    clear h
    refine C_inline [] Tryz.func25 (fun _ _ => by kernel_rfl) rfl (by kernel_rfl) (by rfl) (by decide) (by rfl) (by rfl) (by rfl) ?_
    simp -dsimp -implicitDefEqProofs [-getElem?_pos, -List.map_append, -List.map_set, List.getElem?_cons_zero, List.getElem?_cons_succ]
    refine call_CC (c1.out) ?_
    simp -dsimp -implicitDefEqProofs [-getElem?_pos, -List.map_append, -List.map_set, List.getElem?_cons_zero, List.getElem?_cons_succ]
    refine call_CC (c2.out) ?_
    simp -dsimp -implicitDefEqProofs [-getElem?_pos, -List.map_append, -List.map_set, List.getElem?_cons_zero, List.getElem?_cons_succ]
    exact ends_ag outL rfl
  · rw [if_pos h]
    generalize S.checkDisk ⟨l, []⟩ = e at *
    have he : decide (e = 0) = false := by simp [h]
    replace c2 := hid c2
    refine C_inline [] Tryz.func25 (fun _ _ => by kernel_rfl) rfl (by kernel_rfl) (by rfl) (by decide) (by rfl) (by rfl) (by rfl) ?_
    simp -dsimp -implicitDefEqProofs [-getElem?_pos, -List.map_append, -List.map_set, List.getElem?_cons_zero, List.getElem?_cons_succ]
    refine call_CC (c1.out) ?_
    simp -dsimp -implicitDefEqProofs [-getElem?_pos, -List.map_append, -List.map_set, List.getElem?_cons_zero, List.getElem?_cons_succ]
    refine call_CC (c2.out) ?_
    simp -dsimp -implicitDefEqProofs [-getElem?_pos, -List.map_append, -List.map_set, List.getElem?_cons_zero, List.getElem?_cons_succ, he]
    exact ends_ag outL rfl
end Go.Proofs.YtadmfokicjjglaaGreatDoor.E
