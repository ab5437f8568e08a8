/- RdDesk: desks that came in. -/
import Derived.Test.YtdjdjnmccphbjaaRdZone
import Derived.Test.YtdjdjnmccphbjaaRdBook
import Derived.Test.YtdjdjnmccphbjaaDa
namespace Go.Proofs.Ytdjdjnmccphbjaa.E
open Go.RowKit Go.Proofs Go.ChangeShapes Go.WideShapes
set_option maxRecDepth 100000
variable {H : Type} {enc : TypeId × Value → H} {W : World}
abbrev shDesk : List Sh := [.row shZone, .row [.num .i64], .num .i64, .num .i64]
theorem fits_desk {r : List AV} (h : FitsL shDesk r) : ∃ a : S.Desk, r = deskC false a := by
  obtain ⟨c0, r0, rfl, h0, q0⟩ := h.cons
  obtain ⟨c1, r1, rfl, h1, q1⟩ := q0.cons
  obtain ⟨c2, r2, rfl, h2, q2⟩ := q1.cons
  obtain ⟨c3, r3, rfl, h3, q3⟩ := q2.cons
  obtain ⟨n0, rfl⟩ := h0.rows (en := zoneC false) fun r hr => fits_zone hr
  obtain ⟨n1, rfl⟩ := h1.ints
  obtain ⟨n2, rfl⟩ := h2.int
  obtain ⟨n3, rfl⟩ := h3.int
  rw [q3.nil]
  exact ⟨⟨n0, ⟨n1, n2, n3⟩⟩, rfl⟩
theorem rd_desk {v : Value} {d : DataW H} {p : List MemPlace} {base : Nat} (hw : Value.okWide Try.prog W .any base 85 v) (h : DataW.Trod enc Try.prog W 0 (fun _ => true) true 85 v d p) : ∃ a : S.Desk, V 0 noPlace (fun b => b < W.heap.size) W (.agg (deskC false a)) v := by
  obtain ⟨cells, hf, hv⟩ := rd_agg (m := 20) (sh := shDesk) Try.underlying85 (by kernel_rfl) hw h
  obtain ⟨a, rfl⟩ := fits_desk hf
  exact ⟨a, hv⟩
end Go.Proofs.Ytdjdjnmccphbjaa.E
