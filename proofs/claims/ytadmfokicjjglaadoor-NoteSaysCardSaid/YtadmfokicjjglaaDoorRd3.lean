/- Rd3: RdRec: records that came in. -/
import Derived.Test.YtadmfokicjjglaaDoorRdB
import Derived.Test.YtadmfokicjjglaaDoorWa
namespace Go.Proofs.YtadmfokicjjglaaDoor.E
open Go.RowKit Go.Proofs Go.ChangeShapes Go.WideShapes
set_option maxRecDepth 100000
variable {H : Type} {enc : TypeId × Value → H} {W : World}
abbrev shRec : List Sh := [.num .i64, .num .i64, .num .i64, .num .i64, .num .i64, .num .i64, .row [.num .i64]]
theorem fits_rec {r : List AV} (h : FitsL shRec r) : ∃ a : S.Rec, r = recC false a := by
  obtain ⟨c0, r0, rfl, h0, q0⟩ := h.cons
  obtain ⟨c1, r1, rfl, h1, q1⟩ := q0.cons
  obtain ⟨c2, r2, rfl, h2, q2⟩ := q1.cons
  obtain ⟨c3, r3, rfl, h3, q3⟩ := q2.cons
  obtain ⟨c4, r4, rfl, h4, q4⟩ := q3.cons
  obtain ⟨c5, r5, rfl, h5, q5⟩ := q4.cons
  obtain ⟨c6, r6, rfl, h6, q6⟩ := q5.cons
  obtain ⟨n0, rfl⟩ := h0.int
  obtain ⟨n1, rfl⟩ := h1.int
  obtain ⟨n2, rfl⟩ := h2.int
  obtain ⟨n3, rfl⟩ := h3.int
  obtain ⟨n4, rfl⟩ := h4.int
  obtain ⟨n5, rfl⟩ := h5.int
  obtain ⟨n6, rfl⟩ := h6.ints
  rw [q6.nil]
  exact ⟨⟨n0, n1, ⟨n2, n3, n4, n5, n6⟩⟩, rfl⟩
theorem rd_rec {v : Value} {d : DataW H} {p : List MemPlace} {base : Nat} (hw : Value.okWide Tryd.prog W .any base 36 v) (h : DataW.Trod enc Tryd.prog W 0 (fun _ => true) true 36 v d p) : ∃ a : S.Rec, V 0 noPlace (fun b => b < W.heap.size) W (.agg (recC false a)) v := by
  obtain ⟨cells, hf, hv⟩ := rd_agg (m := 20) (sh := shRec) Tryd.underlying36 (by kernel_rfl) hw h
  obtain ⟨a, rfl⟩ := fits_rec hf
  exact ⟨a, hv⟩
end Go.Proofs.YtadmfokicjjglaaDoor.E
