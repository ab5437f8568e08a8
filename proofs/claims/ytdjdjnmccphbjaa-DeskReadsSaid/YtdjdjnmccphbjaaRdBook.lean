/- RdBook: books that came in. -/
import Derived.Test.YtdjdjnmccphbjaaRdB
namespace Go.Proofs.Ytdjdjnmccphbjaa.E
open Go.RowKit Go.Proofs Go.ChangeShapes Go.WideShapes
set_option maxRecDepth 100000
variable {H : Type} {enc : TypeId × Value → H} {W : World}
abbrev shBook : List Sh := [.row [.num .i64], .num .i64, .num .i64]
theorem fits_book {r : List AV} (h : FitsL shBook r) : ∃ a : S.Book, r = [.lst false 1 (I a.k), .at (.int .i64 a.h), .at (.int .i64 a.t)] := by
  obtain ⟨c0, r0, rfl, h0, q0⟩ := h.cons
  obtain ⟨c1, r1, rfl, h1, q1⟩ := q0.cons
  obtain ⟨c2, r2, rfl, h2, q2⟩ := q1.cons
  obtain ⟨n0, rfl⟩ := h0.ints
  obtain ⟨n1, rfl⟩ := h1.int
  obtain ⟨n2, rfl⟩ := h2.int
  rw [q2.nil]
  exact ⟨⟨n0, n1, n2⟩, rfl⟩
theorem rd_book {v : Value} {d : DataW H} {p : List MemPlace} {base : Nat} (hw : Value.okWide Try.prog W .any base 28 v) (h : DataW.Trod enc Try.prog W 0 (fun _ => true) true 28 v d p) : ∃ a : S.Book, V 0 noPlace (fun b => b < W.heap.size) W (Bk a) v := by
  obtain ⟨cells, hf, hv⟩ := rd_agg (m := 20) (sh := shBook) Try.underlying28 (by kernel_rfl) hw h
  obtain ⟨a, rfl⟩ := fits_book hf
  exact ⟨a, hv⟩
end Go.Proofs.Ytdjdjnmccphbjaa.E
