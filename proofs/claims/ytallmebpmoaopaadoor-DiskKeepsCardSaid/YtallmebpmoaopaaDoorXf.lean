
/- Xf: rows of records grown, joined; law.filed. -/
import Derived.Test.YtallmebpmoaopaaDoorQ1
import Derived.Test.YtallmebpmoaopaaDoorSq
namespace Go.Proofs.YtallmebpmoaopaaDoor.E
open Go.RowKit Go.Proofs
set_option linter.unusedVariables false
set_option linter.unusedSimpArgs false
set_option maxRecDepth 100000
set_option maxHeartbeats 2000000

theorem info_rec : (Tryd.prog.info? 36).map (fun i => (i.zero, i.size, i.bytes)) = some (some (.agg #[.int .i64 0, .int .i64 0, .int .i64 0, .int .i64 0, .int .i64 0, .int .i64 0, .slice none 0 0]), 7, 72) := by kernel_rfl
theorem ends_rows {h : Heap} {n : Nat} {c t : AV} (h2 : OutL h [c] [t]) : Ends [] t [] h n c := by
  obtain ⟨c2', o2, s2⟩ := h2
  obtain ⟨z, rest, hz, hr, rfl⟩ := mapM_inv o2
  simp at hr
  subst hr
  have e2 : outAgg h [] c = some z := by
    unfold outAgg
    split
    · simp [outLeaf] at hz
    · exact hz
  have e3 : outV h [] c = some z := by
    unfold outV
    split
    · simp [outLeaf] at hz
    · exact e2
  exact ⟨⟨z, e3, .one (.leaf (s2.2 0 z t rfl rfl))⟩, rfl⟩
theorem grow_rec (o : Option Addr) (n : Nat) (w : World) (hn : n ≤ 1000000) :
    Calls Tryd.prog 64 #[.slice o 0 0, .int .i64 n] w fun e w' => ∃ a c, e = .returned (.slice a 0 c) ∧ (c = 0 ∨ w'.ownsRow w.heap.size 36 7 (.slice a 0 c) 0 []) ∧ Below w.heap.size w w' := by
  obtain ⟨i0, hi0, hz0, hz1, hz2⟩ := info_parts info_rec
  by_cases c0 : n = 0
  · subst c0
    go_enter Tryd.func64, Tryd.ntmps64
    go_wp2_with fail
    go_ret
    exact ⟨o, 0, rfl, Or.inl rfl, Below.refl _ _⟩
  · have c1 : 0 < n := by omega
    have hrz := fun ty => Lib.run_append_grow_zeros (P := Tryd.prog) w 43 3 ty 36 i0 (.agg #[.int .i64 0, .int .i64 0, .int .i64 0, .int .i64 0, .int .i64 0, .int .i64 0, .slice none 0 0]) .i64 .i64 Tryd.underlying43 Tryd.underlying3 hi0 hz0 o 0 0 [] (run_first0 w.drew i0.size o) n c1 (by omega) (by omega) (by omega)
      (by rw [hz2]; omega) (growslice_fits (by omega) (by rw [hz2]; omega))
    simp only [Nat.zero_add] at hrz
    have hG1 := grownCap_ge w n 0 36
    have hG2 := grownCap_le_maxLen w n 0 36 (by unfold maxLen; omega)
    generalize grownCap w n 0 36 = G at *
    generalize hcs : (#[] ++ Builtin.zeroCells (Value.cells (.agg #[.int .i64 0, .int .i64 0, .int .i64 0, .int .i64 0, .int .i64 0, .int .i64 0, .slice none 0 0])) n ++ Builtin.zeroCells (Value.cells (.agg #[.int .i64 0, .int .i64 0, .int .i64 0, .int .i64 0, .int .i64 0, .int .i64 0, .slice none 0 0])) (G - n)) = cs at *
    have hsz : cs.size = G * 7 := by rw [← hcs]; simp [zeroCells_size, Value.cells]; omega
    have hsz := hid hsz
    clear hcs c0 hi0 hz0 hz1 hz2
    have hG2 := hid hG2
    go_enter Tryd.func64, Tryd.ntmps64
    go_wp2_with (at_builtin; refine Lib.wpList_append_run _ rfl _ _ _ _ rfl _ _ rfl rfl _ _ (hrz _) ?_)
    all_goals
      go_ret
      refine ⟨_, _, rfl, Or.inr (World.ownsRow_made w.drew cs G (Nat.le_refl _) hG2.out hsz.out), ?_⟩
      exact ((Below.refl _ w).drew).alloc (Nat.le_refl _) _

/-- what is nil, or empty: of nil it is known -/
theorem grow_recs (n : Nat) (hn : n ≤ 1000000) : C Tryd.prog 64 [.nl, .at (.int .i64 n)] (.own 0 0 0) [⟨36, 7, []⟩] := by
  refine C_own_empty (by omega) (fun _ _ => by kernel_rfl) fun F w vs h => ?_
  obtain ⟨hl, hv⟩ := h
  match vs, hl with
  | [x, y], _ =>
    have h0 := hv 0 _ _ rfl rfl
    have h1 := hv 1 _ _ rfl rfl
    cases h0; cases h1
    exact grow_rec _ n w hn

theorem concat_recs (xs ys : List S.Rec) (hx : xs.length ≤ 100000) (hy : ys.length ≤ 100000) : C Tryd.prog 33 [.lst false 1 [[.lst false 7 (xs.map (recC false))], [.lst false 7 (ys.map (recC false))]]] (.lst false 7 ((xs ++ ys).map (recC false))) [] := by
  have w1 : IntKind.i64.wrap (xs.length : Int) = xs.length := wrap_ok (by omega)
  have w2 : IntKind.i64.wrap ((xs.length : Int) + ys.length) = (xs.length : Int) + ys.length := wrap_ok (by omega)
  have d1 : decide ((xs.length : Int) < 0) = false := by simp
  have d2 : decide ((xs.length : Int) + ys.length < 0) = false := by simp; omega
  have d3 : decide (100000000 < xs.length) = false := by simp; omega
  have d4 : decide (100000000 < ys.length) = false := by simp; omega
  have d5 : xs.length ≤ 100000000 := by omega
  have hg := grow_recs (xs.length + ys.length) (by omega)
  simp only [Int.natCast_add] at hg
  replace hg := hid hg
  replace hx := hid hx
  replace hy := hid hy
  refine C_inline [] Tryd.func33 (fun _ _ => by kernel_rfl) rfl (by kernel_rfl) (by rfl) (by decide) (by rfl) (by rfl) (by rfl) ?_
  simp -dsimp -implicitDefEqProofs [-getElem?_pos, -List.map_append, -List.map_set, List.getElem?_cons_zero, List.getElem?_cons_succ]
  refine loop_unroll 3 ?_
  simp -dsimp -implicitDefEqProofs [-getElem?_pos, -List.map_append, -List.map_set, List.getElem?_cons_zero, List.getElem?_cons_succ, w1, w2, d1, d2]
  refine call_CC (hg.out) ?_
  simp -dsimp -implicitDefEqProofs [-getElem?_pos, -List.map_append, -List.map_set, List.getElem?_cons_zero, List.getElem?_cons_succ]
  refine loop_unroll 3 ?_
  simp -dsimp -implicitDefEqProofs [-getElem?_pos, -List.map_append, -List.map_set, List.getElem?_cons_zero, List.getElem?_cons_succ, d3, d4, d5]
  exact ends_rows (OutL.recs rfl ⟨rfl, by simp⟩ (by simp) (OutL.nil _))


/-- rows, one of which may be nothing -/
def RowsOf (v : AV) (xs : List S.Rec) : Prop := v = .lst false 7 (xs.map (recC false)) ∨ (v = .nl ∧ xs = [])
theorem RowsOf.sub {v : AV} {xs : List S.Rec} (h : RowsOf v xs) : SubC v (.lst false 7 (xs.map (recC false))) := by
  rcases h with rfl | ⟨rfl, rfl⟩
  · exact .refl _
  · exact .nl
theorem concat_recs2 {a b : AV} {xs ys : List S.Rec} (ha : RowsOf a xs) (hb : RowsOf b ys) (hx : xs.length ≤ 100000) (hy : ys.length ≤ 100000) : C Tryd.prog 33 [.lst false 1 [[a], [b]]] (.lst false 7 ((xs ++ ys).map (recC false))) [] :=
  (concat_recs xs ys hx hy).args (.cons (.leaf (.lst (fun h => h) (.cons (.cons ha.sub (.nil _)) (.cons (.cons hb.sub (.nil _)) .nil)))) (.nil _))

theorem law_cleared (n : Int) : C Tryd.prog 59 [Int' n] (.agg (recC true ⟨0, n, ⟨12, 0, 0, 0, []⟩⟩)) [] := by
  refine C_inline [] Tryd.func59 (fun _ _ => by kernel_rfl) rfl (by kernel_rfl) (by rfl) (by decide) (by rfl) (by rfl) (by rfl) ?_
  simp -dsimp -implicitDefEqProofs [-getElem?_pos, -List.map_append, -List.map_set, List.getElem?_cons_zero, List.getElem?_cons_succ]
  exact ends_agg outL
theorem put_eq {d x : S.Disk} {r : S.Rec} {e : Int} (h : S.putDisk d r = (x, e)) : C Tryd.prog 27 [.agg (diskC false d), .agg (recC false r)] (.tup [.agg (diskC true x), Int' e]) [] := by
  have := disk_Put d r
  rw [h] at this
  exact this
theorem sync_eq {d x : S.Disk} {e : Int} (h : S.syncDisk d = (x, e)) : C Tryd.prog 28 [.agg (diskC false d)] (.tup [.agg (diskC true x), Int' e]) [] := by
  have := disk_Sync d
  rw [h] at this
  exact this
theorem crash_eq {d x : S.Disk} {n e : Int} (h : S.crashDisk d n = (x, e)) : C Tryd.prog 29 [.agg (diskC false d), Int' n] (.tup [.agg (diskC true x), Int' e]) [] := by
  have := disk_Crash d n
  rw [h] at this
  exact this
theorem recover_eq {d x : S.Disk} {l : List S.Rec} {e : Int} (h : S.recoverDisk d = (x, l, e)) : C Tryd.prog 31 [.agg (diskC false d)] (recovR (x, l, e)) [] := by
  have := disk_Recover d
  rw [h] at this
  exact this

abbrev TX2 : List UInt8 := [48, 32, 50, 58, 32, 99, 108, 101, 97, 114, 10]
theorem law_filed : C Tryd.prog 25 [] (Bool' true) [] := by
  have p1 := hid ((put_eq (d := ⟨[], []⟩) (r := ⟨0, 2, ⟨12, 0, 0, 0, []⟩⟩) (x := ⟨[], TX2⟩) (e := 0) (by decide +kernel)).args (args2 := [.agg [.nl, .nl], .agg (recC false ⟨0, 2, ⟨12, 0, 0, 0, []⟩⟩)]) (.cons (.agg (.cons .nl (.cons .nl (.nil _)))) (.cons (.refl _) (.nil _))))
  have p2 := hid (sync_eq (d := ⟨[], TX2⟩) (x := ⟨TX2, []⟩) (e := 0) (by decide +kernel))
  have p3 := hid (put_eq (d := ⟨TX2, []⟩) (r := ⟨0, 3, ⟨12, 0, 0, 0, []⟩⟩) (x := ⟨TX2, [48, 32, 51, 58, 32, 99, 108, 101, 97, 114, 10]⟩) (e := 0) (by decide +kernel))
  have p4 := hid (crash_eq (d := ⟨TX2, [48, 32, 51, 58, 32, 99, 108, 101, 97, 114, 10]⟩) (n := 4) (x := ⟨TX2, [48, 32, 51, 58]⟩) (e := 0) (by decide +kernel))
  have p5 := hid (recover_eq (d := ⟨TX2, [48, 32, 51, 58]⟩) (x := ⟨TX2, []⟩) (l := [⟨0, 2, ⟨12, 0, 0, 0, []⟩⟩]) (e := 0) (by decide +kernel))
  have q2 := hid (law_cleared 2)
  have q3 := hid (law_cleared 3)
  refine C_inline [] Tryd.func25 (fun _ _ => by kernel_rfl) rfl (by kernel_rfl) (by rfl) (by decide) (by rfl) (by rfl) (by rfl) ?_
  simp -dsimp -implicitDefEqProofs [-getElem?_pos, -List.map_append, -List.map_set, List.getElem?_cons_zero, List.getElem?_cons_succ]
  refine call_CC (q2.out) ?_
  simp -dsimp -implicitDefEqProofs [-getElem?_pos, -List.map_append, -List.map_set, List.getElem?_cons_zero, List.getElem?_cons_succ]
  refine call_CC (p1.out) ?_
  simp -dsimp -implicitDefEqProofs [-getElem?_pos, -List.map_append, -List.map_set, List.getElem?_cons_zero, List.getElem?_cons_succ]
  refine call_CC (p2.out) ?_
  simp -dsimp -implicitDefEqProofs [-getElem?_pos, -List.map_append, -List.map_set, List.getElem?_cons_zero, List.getElem?_cons_succ]
  refine call_CC (q3.out) ?_
  simp -dsimp -implicitDefEqProofs [-getElem?_pos, -List.map_append, -List.map_set, List.getElem?_cons_zero, List.getElem?_cons_succ]
  refine call_CC (p3.out) ?_
  simp -dsimp -implicitDefEqProofs [-getElem?_pos, -List.map_append, -List.map_set, List.getElem?_cons_zero, List.getElem?_cons_succ]
  refine call_CC (p4.out) ?_
  simp -dsimp -implicitDefEqProofs [-getElem?_pos, -List.map_append, -List.map_set, List.getElem?_cons_zero, List.getElem?_cons_succ]
  refine call_CC (p5.out) ?_
  simp -dsimp -implicitDefEqProofs [-getElem?_pos, -List.map_append, -List.map_set, List.getElem?_cons_zero, List.getElem?_cons_succ]
  exact ends_bool rfl

end Go.Proofs.YtallmebpmoaopaaDoor.E
