/- ZoneB: IndexFunc, ContainsFunc, Clone of numbers; zone.Copy. -/
import Derived.Test.YthliojembgdjjaaZoneA
namespace Go.Proofs.Ythliojembgdjjaa
open Go.RowKit Go.Proofs
set_option linter.unusedVariables false
set_option maxRecDepth 100000

/-- the first place whose number has p; -1: none -/
def idx (p : Int → Bool) (xs : List Int) : Int := if xs.any p then (xs.findIdx p : Int) else -1

theorem findIdx_of {p : Int → Bool} {xs : List Int} {k : Nat} (hk : k < xs.length) (hp : p (nth xs k) = true) (hb : ∀ j, j < k → p (nth xs j) = false) : xs.findIdx p = k := by
  rw [nth_eq hk] at hp
  rw [List.findIdx_eq hk]
  refine ⟨hp, fun j hj => ?_⟩
  have := hb j hj
  rwa [nth_eq (by omega)] at this

theorem indexFunc_int (F : Nat → Prop) (w : World) (v : Value) (xs : List Int) (g : Nat) (p : Int → Bool) (hx : Ints F w v xs) (hcf : ∀ (args : Array Value) (w : World), (callFunc g args).run Try.prog w = .ok (.enter g args) w)
    (hg : Hid (∀ (x : Int) (w : World), Calls Try.prog g #[.int .i64 x] w fun e w' => e = .returned (.bool (p x)) ∧ w = w')) :
    Calls Try.prog 139 #[v, .func (.func g) #[] #[]] w fun e w' => e = .returned (.int .i64 (idx p xs)) ∧ w = w' := by
  obtain ⟨n, a, cap, rfl, hn, h1, h2, h4, h3⟩ := hx.open
  have x1 : Hid (∀ k, k < n → p (nth xs k) = true → (∀ j, j < k → p (nth xs j) = false) → (k : Int) = idx p xs) := by
    intro k hk hp hb
    have hk' : k < xs.length := by rw [hn.out]; exact hk
    simp [idx, any_true hk' hp, findIdx_of hk' hp hb]
  have x2 : Hid ((∀ j, j < n → p (nth xs j) = false) → -1 = idx p xs) := by
    intro h; simp [idx, any_false (p := p) (hn.out ▸ h)]
  generalize idx p xs = r at *
  clear hn h4 hx
  go_enter Try.func139, Try.ntmps139
  go_wp2_with fail
  go_loop [8] (fun i => ∃ k : Nat, k ≤ n ∧ i = .int .i64 k ∧ ∀ j, j < k → p (nth xs j) = false) (fun i => n - (intOf i).toNat)
  case atStart => exact ⟨0, Nat.zero_le _, rfl, by intro j hj; omega⟩
  case round =>
    obtain ⟨k, hk, rfl, hb⟩ := hrel
    replace hb := hid hb
    by_cases hlt : k < n
    · obtain ⟨b, off, rfl, -, hc⟩ := h3 k hlt
      clear h3
      go_wp2_with fail
      refine (hg.out _ _).mono ?_
      rintro e w' ⟨rfl, rfl⟩
      cases hp : p (nth xs k)
      · have H := hid (all_below_succ hb.out hp)
        clear hp hb
        go_wp2_with fail
        go_round
        case rel => exact ⟨k + 1, by omega, by go_num, H.out⟩
        case measure => simp [intOf]; omega
      · have H := hid (x1.out k hlt hp hb.out)
        clear hp hb
        go_wp2_with fail
        go_ret
        exact ⟨ret_int H.out, rfl⟩
    · have hke : k = n := by omega
      subst hke
      have H := hid (x2.out hb.out)
      clear h3 hb
      go_wp2_with fail
      go_ret
      exact ⟨ret_int H.out, rfl⟩

theorem idx_nonneg (p : Int → Bool) (xs : List Int) : decide (0 ≤ idx p xs) = xs.any p := by
  unfold idx
  split
  · rename_i h; rw [h]; simp
  · rename_i h; simp at h; simpa using h

theorem containsFunc_int (F : Nat → Prop) (w : World) (v : Value) (xs : List Int) (g : Nat) (p : Int → Bool) (hx : Ints F w v xs) (hcf : ∀ (args : Array Value) (w : World), (callFunc g args).run Try.prog w = .ok (.enter g args) w)
    (hg : Hid (∀ (x : Int) (w : World), Calls Try.prog g #[.int .i64 x] w fun e w' => e = .returned (.bool (p x)) ∧ w = w')) :
    Calls Try.prog 97 #[v, .func (.func g) #[] #[]] w fun e w' => e = .returned (.bool (xs.any p)) ∧ w = w' := by
  have hi := idx_nonneg p xs
  have h := hid (indexFunc_int F w v xs g p hx hcf hg)
  have H := hid (hi)
  clear hi
  go_enter Try.func97, Try.ntmps97
  go_wp2_with fail
  refine h.out.mono ?_
  rintro e w' ⟨rfl, rfl⟩
  go_wp2_with fail
  go_ret
  exact ⟨ret_bool H.out, rfl⟩

theorem writeBad (x : Int) (w : World) : Calls Try.prog 98 #[.int .i64 x] w fun e w' => e = .returned (.bool (S.bad x)) ∧ w = w' := by
  by_cases c1 : x < 0
  · go_enter Try.func98, Try.ntmps98
    go_wp2_with fail
    go_ret
    exact ⟨ret_bool (by simp [S.bad, c1]), rfl⟩
  · have H := hid (show decide (x < 0) = false by simpa using c1)
    go_enter Try.func98, Try.ntmps98
    go_wp2_with fail
    go_ret
    exact ⟨ret_bool (by simp [S.bad, H.out]), rfl⟩

theorem info_int : (Try.prog.info? 3).map (fun i => (i.zero, i.size, i.bytes)) = some (some (.int .i64 0), 1, 8) := by kernel_rfl

theorem clone_int (F : Nat → Prop) (w : World) (v : Value) (n : Nat) (cs : List Value) (hx : Sl F w v n 1 cs) (h1 : ∀ u ∈ cs, u.oneCell' = true) (hl : n ≤ 1000000) :
    Calls Try.prog 100 #[v] w fun e w' => ∃ a c, e = .returned (.slice a n c) ∧ w'.ownsRow w.heap.size 3 1 (.slice a n c) n cs ∧ Below w.heap.size w w' := by
  obtain ⟨a, cap, rfl, g1, h2, h3, h4, h5⟩ := hx
  have hnil := fun (w : World) a n c => Lib.run_eql_slice_nil (P := Try.prog) w 22 3 a n c 0 0 Try.underlying22
  cases a with
  | none =>
    obtain ⟨rfl, rfl⟩ := h4 rfl
    have : cs = [] := by cases cs with | nil => rfl | cons _ _ => simp at g1
    subst this
    go_enter Try.func100, Try.ntmps100
    go_wp2_with fail
    go_ret
    exact ⟨_, _, rfl, World.ownsRow_nil _ _ _ _, Below.refl _ _⟩
  | some ad =>
    obtain ⟨i0, hi, hz0, hz1, hz2⟩ := info_parts info_int
    have hown : (w.alloc (.cells #[] 3)).ownsRow w.heap.size 3 1 (.slice (some ⟨w.heap.size, 0, none⟩) 0 0) 0 [] :=
      World.ownsRow_made w #[] 0 (Nat.le_refl _) (by simp) (by simp)
    have hnews : ∀ j u, cs[j]? = some u → (w.alloc (.cells #[] 3)).cell? (ad.add j) = some u := by
      intro j u hj
      have hp : 0 < n := by
        have := (List.getElem?_eq_some_iff.1 hj).1
        omega
      obtain ⟨g0, g2, g3, g4⟩ := h5 ad rfl hp
      obtain ⟨b, off, sp⟩ := ad
      simp only at g2
      subst g2
      have e : (⟨b, off, none⟩ : Addr).add j = ⟨b, off + j, none⟩ := by
        unfold Addr.add; split
        · rename_i h; subst h; rfl
        · rfl
      rw [e, ((Below.refl _ w).alloc (Nat.le_refl _) _).cell (p := ⟨b, off + j, none⟩) g3]; exact g4 j u hj
    have H1 := hid hown
    have H2 := hid hnews
    have H3 := hid h1
    have hg1 := hid g1
    clear hown hnews h1 g1 h4 h5
    go_enter Try.func100, Try.ntmps100
    go_wp2_with (at_builtin; (refine wpList_append_own _ rfl (.tmp 5) (.tmp 6) 22 rfl w.heap.size 3 i0 (.int .i64 0) 1 8 Try.underlying22 hi hz0 hz1 hz2 rfl (by decide) _ 0 [] rfl H1.out ad n cap cs rfl hg1.out H2.out H3.out ?c3 ?c4 (by simp) ?_))
    case c3 => unfold maxLen; omega
    case c4 => omega
    intro v' w' ho hg _
    obtain ⟨a', c', rfl⟩ := own_shape ho
    go_wp2_with fail
    go_ret
    refine ⟨_, _, rfl, ho, ?_⟩
    exact ((Below.refl _ w).alloc (Nat.le_refl _) _).grown hg (by simp) (by intro k hk; simp [Value.ownBlock] at hk; omega)

theorem zone_copy (F : Nat → Prop) (w : World) (v : Value) (z : S.Zone) (hz : ZoneV F w v z) (hl : z.d.length ≤ 1000000) :
    Calls Try.prog 99 #[v] w fun e w' => ∃ a c, e = .returned (.agg #[.int .i64 z.st, .slice a z.d.length c]) ∧ w'.ownsRow w.heap.size 3 1 (.slice a z.d.length c) z.d.length (iv z.d) ∧ Below w.heap.size w w' := by
  obtain ⟨s, rfl, hi⟩ := hz
  obtain ⟨st, xs⟩ := z
  simp only at hi hl ⊢
  generalize hn : xs.length = n at *
  generalize hcs : iv xs = cs at *
  have h1 : ∀ u ∈ cs, u.oneCell' = true := hcs ▸ iv_one xs
  have hb0 : Below w.heap.size w ((w.alloc (.cells #[.int .i64 st, s] 24)).alloc (.cells #[.int .i64 0, .slice none 0 0] 24)) := ((Below.refl _ _).alloc (Nat.le_refl _) _).alloc (by simp) _
  have hi : Sl F w s n 1 cs := by unfold Ints at hi; rw [hn, hcs] at hi; exact hi
  clear hcs hn
  go_enter Try.func99, Try.ntmps99
  go_wp2_with fail
  refine (clone_int F _ _ _ _ (hi.below hb0) h1 hl).mono ?_
  rintro e w1 ⟨a, c, rfl, ho, hb⟩
  have k1_0_0 := box_cell (b := w.heap.size) (o := 0) (v := .int .i64 st) hb (by first | assumption | go_simp)
  have f1_0_0 := box_free (b := w.heap.size) (o := 0) (v := .int .i64 st) hb (by go_simp) (by go_simp)
  have k1_0_1 := box_cell (b := w.heap.size) (o := 1) (v := s) hb (by first | assumption | go_simp)
  have f1_0_1 := box_free (b := w.heap.size) (o := 1) (v := s) hb (by go_simp) (by go_simp)
  have k1_1_0 := box_cell (b := w.heap.size + 1) (o := 0) (v := .int .i64 0) hb (by first | assumption | go_simp)
  have f1_1_0 := box_free (b := w.heap.size + 1) (o := 0) (v := .int .i64 0) hb (by go_simp) (by go_simp)
  have k1_1_1 := box_cell (b := w.heap.size + 1) (o := 1) (v := .slice none 0 0) hb (by first | assumption | go_simp)
  have f1_1_1 := box_free (b := w.heap.size + 1) (o := 1) (v := .slice none 0 0) hb (by go_simp) (by go_simp)
  have z1 := hb.size
  try simp at z1
  have Hhb := hid hb
  clear hb 
  go_wp2_with fail
  refine bodyPost_ret (v := .agg #[.int .i64 st, .slice a n c]) (by simp [results, Try.results99, go_sem, k1_1_0, k1_1_1]) rfl ⟨_, _, rfl, ?_, (by repeat (first | ((with_reducible refine Below.setCell ?_ ?_ _); rotate_left; exact (by first | omega | ((try dsimp only); ((repeat (first | rw [hs_setCell] | rw [hs_alloc] | rw [hs_drew] | rw [hs_drewN])) <;> omega)))) | ((with_reducible refine Below.alloc ?_ ?_ _); rotate_left; exact (by first | omega | ((try dsimp only); ((repeat (first | rw [hs_setCell] | rw [hs_alloc] | rw [hs_drew] | rw [hs_drewN])) <;> omega)))) | (with_reducible refine Below.drew ?_) | (with_reducible refine below_drewN ?_ _) | (with_reducible exact Below.refl _ _) | (with_reducible exact Hhb.out) | ((with_reducible refine Below.trans ?_ (Below.mono Hhb.out ?_)); rotate_left; exact (by first | omega | ((try dsimp only); ((repeat (first | rw [hs_setCell] | rw [hs_alloc] | rw [hs_drew] | rw [hs_drewN])) <;> omega))))))⟩
  exact own_mono (own_setCell (own_setCell (own_setCell ho (by first | omega | ((try dsimp only); ((repeat (first | rw [hs_setCell] | rw [hs_alloc] | rw [hs_drew] | rw [hs_drewN])) <;> omega))) _) (by first | omega | ((try dsimp only); ((repeat (first | rw [hs_setCell] | rw [hs_alloc] | rw [hs_drew] | rw [hs_drewN])) <;> omega))) _) (by first | omega | ((try dsimp only); ((repeat (first | rw [hs_setCell] | rw [hs_alloc] | rw [hs_drew] | rw [hs_drewN])) <;> omega))) _) (by first | omega | ((try dsimp only); ((repeat (first | rw [hs_setCell] | rw [hs_alloc] | rw [hs_drew] | rw [hs_drewN])) <;> omega)))

end Go.Proofs.Ythliojembgdjjaa
