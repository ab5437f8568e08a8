/- RdZone: zones and numbers that came in. -/
import Derived.Test.YtdjdjnmccphbjaaRdB
import Derived.Test.YtdjdjnmccphbjaaYa
namespace Go.Proofs.Ytdjdjnmccphbjaa.E
open Go.RowKit Go.Proofs Go.ChangeShapes Go.WideShapes
set_option maxRecDepth 100000
variable {H : Type} {enc : TypeId × Value → H} {W : World}
abbrev shZone : List Sh := [.num .i64, .row [.num .i64]]
theorem fits_zone {r : List AV} (h : FitsL shZone r) : ∃ a : S.Zone, r = zoneC false a := by
  obtain ⟨c0, r0, rfl, h0, q0⟩ := h.cons
  obtain ⟨c1, r1, rfl, h1, q1⟩ := q0.cons
  obtain ⟨n0, rfl⟩ := h0.int
  obtain ⟨n1, rfl⟩ := h1.ints
  rw [q1.nil]
  exact ⟨⟨n0, n1⟩, rfl⟩
theorem rd_zone {v : Value} {d : DataW H} {p : List MemPlace} {base : Nat} (hw : Value.okWide Try.prog W .any base 72 v) (h : DataW.Trod enc Try.prog W 0 (fun _ => true) true 72 v d p) : ∃ a : S.Zone, V 0 noPlace (fun b => b < W.heap.size) W (.agg (zoneC false a)) v := by
  obtain ⟨cells, hf, hv⟩ := rd_agg (m := 20) (sh := shZone) Try.underlying72 (by kernel_rfl) hw h
  obtain ⟨a, rfl⟩ := fits_zone hf
  exact ⟨a, hv⟩
theorem rd_zones {v : Value} {d : DataW H} {p : List MemPlace} {base : Nat} (hw : Value.okWide Try.prog W .any base 65 v) (h : DataW.Trod enc Try.prog W 0 (fun _ => true) true 65 v d p) : ∃ a : List S.Zone, V 0 noPlace (fun b => b < W.heap.size) W (.lst false 2 (a.map (zoneC false))) v := by
  obtain ⟨c, hf, hv⟩ := rd_slice (m := 20) (sh := shZone) Try.underlying65 (by kernel_rfl) hw h
  obtain ⟨a, rfl⟩ := hf.rows (en := zoneC false) fun r hr => fits_zone hr
  exact ⟨a, hv⟩
theorem rd_ints {v : Value} {d : DataW H} {p : List MemPlace} {base : Nat} (hw : Value.okWide Try.prog W .any base 24 v) (h : DataW.Trod enc Try.prog W 0 (fun _ => true) true 24 v d p) : ∃ a : List Int, V 0 noPlace (fun b => b < W.heap.size) W (.lst false 1 (I a)) v := by
  obtain ⟨c, hf, hv⟩ := rd_slice (m := 20) (sh := [.num .i64]) Try.underlying24 (by kernel_rfl) hw h
  obtain ⟨a, rfl⟩ := hf.ints
  exact ⟨a, hv⟩
end Go.Proofs.Ytdjdjnmccphbjaa.E
