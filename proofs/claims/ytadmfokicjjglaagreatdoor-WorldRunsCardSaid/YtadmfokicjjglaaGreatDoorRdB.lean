
/- RdB: plain data that came in, as the engine reads them. -/
import Derived.Test.YtadmfokicjjglaaGreatDoorRdA
import Derived.Test.YtadmfokicjjglaaGreatDoorB1
import Derived.Test.YtadmfokicjjglaaGreatDoorH1
namespace Go.Proofs.YtadmfokicjjglaaGreatDoor.E
open Go.RowKit Go.Proofs Go.ChangeShapes Go.WideShapes
set_option maxRecDepth 100000
variable {H : Type} {enc : TypeId × Value -> H} {P : Program} {W : World}
theorem Fits.v {s : Sh} {c : AV} {v : Value} {F : Nat -> Prop} (hf : Fits s c) (hp : PV F W c v) : V 0 noPlace F W c v := by
 cases hf with
 | num k n _ => cases hp with | «at» h => exact .at h
 | boo x => cases hp with | «at» h => exact .at h
 | str x => cases hp with | «at» h => exact .at h
 | row _ _ => exact .lst (hp.mono fun b hb => ⟨⟨hb, fun e => by cases e⟩, rfl⟩)
theorem rd_agg {t : TypeId} {v : Value} {d : DataW H} {p : List MemPlace} {base : Nat} {fs : Array Field} {sh : List Sh} {m : Nat} (hs : P.underlying t = some (.struct fs)) (hsh : shOf P m t = some sh)
  (hw : Value.okWide P W .any base t v) (h : DataW.Trod enc P W 0 (fun _ => true) true t v d p) : ∃ cells, FitsL sh cells /\ V 0 noPlace (fun b => b < W.heap.size) W (.agg cells) v := by
 obtain ⟨cs, rfl, hsz⟩ := okWide_struct hs hw;obtain ⟨fuel, hf⟩ := h;obtain ⟨cells, h1, h2, h3, h4⟩ := trod_shape fuel m t _ _ sh hsh hf;refine ⟨cells, h2, ?_⟩;have e : (Value.agg cs) = .agg (cs.toList).toArray := by simp
 rw [e];have hcl : (Value.agg cs).cells.toList = cs.toList := by simp [Value.cells]
 rw [hcl] at h1 h3 h4;refine .agg (by rw [h2.1, h1]) h3 fun j c u hc hu => ?_
 obtain ⟨s, hs'⟩ : ∃ s, sh[j]? = some s := ⟨_, List.getElem?_eq_getElem (by rw [<- h2.1]; exact (List.getElem?_eq_some_iff.1 hc).1)⟩;exact (h2.2 j s c hs' hc).v (h4 j c u hc hu)
theorem rd_slice {t e : TypeId} {v : Value} {d : DataW H} {p : List MemPlace} {base : Nat} {sh : List Sh} {m : Nat} (hs : P.underlying t = some (.slice e)) (hsh : shOf P m t = some [.row sh])
  (hw : Value.okWide P W .any base t v) (h : DataW.Trod enc P W 0 (fun _ => true) true t v d p) : ∃ c, Fits (.row sh) c /\ V 0 noPlace (fun b => b < W.heap.size) W c v := by
 obtain ⟨a, len, cap, rfl⟩ := okWide_slice hs hw;obtain ⟨fuel, hf⟩ := h;obtain ⟨cells, h1, ⟨h2, h2'⟩, h3, h4⟩ := trod_shape fuel m t _ _ _ hsh hf
 match cells, h2 with
 | [c], _ =>
  have hfit := h2' 0 _ _ rfl rfl;exact ⟨c, hfit, hfit.v (h4 0 _ _ rfl (by simp [Value.cells]))⟩
theorem FitsL.cons {s : Sh} {sh : List Sh} {cells : List AV} (h : FitsL (s :: sh) cells) : ∃ c cells', cells = c :: cells' /\ Fits s c /\ FitsL sh cells' := by
 obtain ⟨h1, h2⟩ := h;cases cells with
 | nil => simp at h1
 | cons c cells => exact ⟨c, cells, rfl, h2 0 s c rfl rfl, by simpa using h1, fun j s' c' a b => h2 (j + 1) s' c' (by simpa using a) (by simpa using b)⟩
theorem FitsL.nil {cells : List AV} (h : FitsL [] cells) : cells = [] := List.eq_nil_of_length_eq_zero (by simpa using h.1)
theorem Fits.int {k : IntKind} {c : AV} (h : Fits (.num k) c) : ∃ n, c = .at (.int k n) := by cases h; exact ⟨_, rfl⟩
theorem Fits.bool {c : AV} (h : Fits .boo c) : ∃ n, c = .at (.bool n) := by cases h; exact ⟨_, rfl⟩
theorem map_of {α β : Type} {f : α -> β} : ∀ {ys : List β}, (∀ y, y ∈ ys -> ∃ x, y = f x) -> ∃ xs, ys = List.map f xs
 | [], _ => ⟨[], rfl⟩
 | y :: ys, h => by
  obtain ⟨x, rfl⟩ := h y (by simp);obtain ⟨xs, rfl⟩ := map_of (ys := ys) fun z hz => h z (by simp [hz])
  exact ⟨x :: xs, rfl⟩
theorem Fits.rows {α : Type} {en : α -> List AV} {sh : List Sh} {c : AV} (h : Fits (.row sh) c) (g : ∀ r, FitsL sh r -> ∃ x, r = en x) : ∃ xs : List α, c = .lst false sh.length (xs.map en) := by
 cases h with
 | row h1 h2 =>
  rename_i rows;obtain ⟨xs, rfl⟩ := map_of (f := en) (ys := rows) fun r hr => g r ⟨h1 r hr, h2 r hr⟩
  exact ⟨xs, rfl⟩
theorem Fits.ints {c : AV} (h : Fits (.row [.num .i64]) c) : ∃ xs, c = .lst false 1 (I xs) :=
 h.rows (en := fun x => [AV.at (.int .i64 x)]) fun r hr => by
  obtain ⟨c, r', rfl, h1, h2⟩ := hr.cons;obtain ⟨n, rfl⟩ := h1.int;rw [h2.nil];exact ⟨n, rfl⟩
abbrev shAns : List Sh := [.num .i64, .num .i64, .row [.num .i64]]
abbrev shHand : List Sh := [.num .i64, .boo, .num .i64, .num .i64, .num .i64, .num .i64, .row [.num .i64], .row shAns]
theorem fits_ans {r : List AV} (h : FitsL shAns r) : ∃ a : S.Answer, r = ansC false a := by
 obtain ⟨c0, r0, rfl, h0, q0⟩ := h.cons;obtain ⟨c1, r1, rfl, h1, q1⟩ := q0.cons;obtain ⟨c2, r2, rfl, h2, q2⟩ := q1.cons;obtain ⟨n0, rfl⟩ := h0.int;obtain ⟨n1, rfl⟩ := h1.int;obtain ⟨n2, rfl⟩ := h2.ints;rw [q2.nil];exact ⟨⟨n0, n1, n2⟩, rfl⟩
theorem fits_hand {r : List AV} (h : FitsL shHand r) : ∃ a : S.Hand, r = handC false a := by
 obtain ⟨c0, r0, rfl, h0, q0⟩ := h.cons;obtain ⟨c1, r1, rfl, h1, q1⟩ := q0.cons;obtain ⟨c2, r2, rfl, h2, q2⟩ := q1.cons;obtain ⟨c3, r3, rfl, h3, q3⟩ := q2.cons;obtain ⟨c4, r4, rfl, h4, q4⟩ := q3.cons;obtain ⟨c5, r5, rfl, h5, q5⟩ := q4.cons;obtain ⟨c6, r6, rfl, h6, q6⟩ := q5.cons;obtain ⟨c7, r7, rfl, h7, q7⟩ := q6.cons;obtain ⟨n0, rfl⟩ := h0.int;obtain ⟨n1, rfl⟩ := h1.bool;obtain ⟨n2, rfl⟩ := h2.int;obtain ⟨n3, rfl⟩ := h3.int;obtain ⟨n4, rfl⟩ := h4.int;obtain ⟨n5, rfl⟩ := h5.int;obtain ⟨n6, rfl⟩ := h6.ints;obtain ⟨n7, rfl⟩ := h7.rows (en := ansC false) fun r hr => fits_ans hr
 rw [q7.nil];exact ⟨⟨n0, n1, ⟨n2, n3, n4, n5, n6⟩, n7⟩, rfl⟩
end Go.Proofs.YtadmfokicjjglaaGreatDoor.E
