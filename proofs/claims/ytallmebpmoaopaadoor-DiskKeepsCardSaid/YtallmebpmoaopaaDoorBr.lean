
/- Br: from what a row reads to what the engine reads; from a law's contract to its row. -/
import Derived.Test.YtallmebpmoaopaaDoorX3
import Derived.Test.YtallmebpmoaopaaDoorRow
namespace Go.Proofs.YtallmebpmoaopaaDoor.E
open Go.RowKit Go.Proofs

theorem flat_I (xs : List Int) : (I xs).flatten = xs.map fun x => AV.at (.int .i64 x) := by
  induction xs with
  | nil => rfl
  | cons x xs ih => simp only [I, List.map_cons, List.flatten_cons] at ih ⊢; rw [ih]; rfl

theorem ints_V {w : World} {v : Value} {xs : List Int} (h : Ints T w v xs) : V 0 noPlace (fun b => b < w.heap.size) w (.lst false 1 (I xs)) v := by
  obtain ⟨a, c, rfl, h1, h2, h3, h4, h5⟩ := h
  refine .lst ?_
  have e : xs.length = (I xs).length := by simp
  rw [e]
  refine PV.lst (us := iv xs) ?_ (by simpa using h2) h3 ?_ ?_ (iv_one xs) ?_ ?_
  · intro r hr
    simp only [I, List.mem_map] at hr
    obtain ⟨x, _, rfl⟩ := hr
    rfl
  · intro ha
    obtain ⟨g1, g2⟩ := h4 ha
    exact ⟨List.eq_nil_of_length_eq_zero (by simpa using g1), g2⟩
  · rw [flat_I]; simp
  · intro ad ha hne
    have hp : 0 < xs.length := by
      rcases Nat.eq_zero_or_pos xs.length with g | g
      · exact absurd (List.eq_nil_of_length_eq_zero (by simpa using g)) hne
      · exact g
    obtain ⟨g1, g2, g3, g4⟩ := h5 ad ha hp
    exact ⟨g2, ⟨g3, by simp⟩, g4⟩
  · intro j c' u hc hu
    rw [flat_I] at hc
    simp only [iv, List.getElem?_map] at hc hu
    cases hx : xs[j]? with
    | none => rw [hx] at hc; cases hc
    | some x =>
      rw [hx] at hc hu
      cases hc; cases hu
      exact .at rfl

/-- what a law's contract says of a run -/
theorem C.law {P : Program} {f : FuncId} {args : List AV} {vs : List Value} {W : World} (h : C P f args (.at (.bool true)) []) (hG : Glob W.heap.size W) (hv : VL 0 noPlace (fun b => b < W.heap.size) W args vs) :
    Calls P f vs.toArray W fun e W' => e = .returned (.bool true) ∧ Below W.heap.size W W' := by
  refine (h.2.2.2 _ W vs (fun b hb => hb) hG hv).mono ?_
  rintro e w' ⟨v, ρ, ok, rfl, H, hr, -⟩
  cases hr
  exact ⟨rfl, H.below⟩

theorem VL.nil {W : World} {F : Nat → Prop} : VL 0 noPlace F W [] [] := ⟨rfl, by simp⟩
theorem VL.cons {W : World} {F : Nat → Prop} {a : AV} {v : Value} {l : List AV} {vs : List Value} (h : V 0 noPlace F W a v) (g : VL 0 noPlace F W l vs) : VL 0 noPlace F W (a :: l) (v :: vs) := by
  refine ⟨by simp [g.1], fun j c u hc hu => ?_⟩
  cases j with
  | zero => cases hc; cases hu; exact h
  | succ j => exact g.2 j c u (by simpa using hc) (by simpa using hu)

end Go.Proofs.YtallmebpmoaopaaDoor.E
