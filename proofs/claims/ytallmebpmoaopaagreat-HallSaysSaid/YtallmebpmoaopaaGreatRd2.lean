/- Rd2: RdBook: books that came in. RdZone: zones and numbers that came in. RdDesk: desks that came in. -/
import Derived.Test.YtallmebpmoaopaaGreatRdB
import Derived.Test.YtallmebpmoaopaaGreatYa
import Derived.Test.YtallmebpmoaopaaGreatD1
namespace Go.Proofs.YtallmebpmoaopaaGreat.E
open Go.RowKit Go.Proofs Go.ChangeShapes Go.WideShapes
set_option maxRecDepth 100000
variable {H : Type} {enc : TypeId × Value → H} {W : World}
abbrev shBook : List Sh := [.row [.num .i64], .num .i64, .num .i64]
theorem fits_book {r : List AV} (h : FitsL shBook r) : ∃ a : S.Book, r = [.lst false 1 (I a.k), .at (.int .i64 a.h), .at (.int .i64 a.t)] := by
  obtain ⟨c0, r0, rfl, h0, q0⟩ := h.cons
  obtain ⟨c1, r1, rfl, h1, q1⟩ := q0.cons
  obtain ⟨c2, r2, rfl, h2, q2⟩ := q1.cons
  obtain ⟨n0, rfl⟩ := h0.ints
  obtain ⟨n1, rfl⟩ := h1.int
  obtain ⟨n2, rfl⟩ := h2.int
  rw [q2.nil]
  exact ⟨⟨n0, n1, n2⟩, rfl⟩
theorem rd_book {v : Value} {d : DataW H} {p : List MemPlace} {base : Nat} (hw : Value.okWide Tryz.prog W .any base 25 v) (h : DataW.Trod enc Tryz.prog W 0 (fun _ => true) true 25 v d p) : ∃ a : S.Book, V 0 noPlace (fun b => b < W.heap.size) W (Bk a) v := by
  obtain ⟨cells, hf, hv⟩ := rd_agg (m := 20) (sh := shBook) Tryz.underlying25 (by kernel_rfl) hw h
  obtain ⟨a, rfl⟩ := fits_book hf
  exact ⟨a, hv⟩
end Go.Proofs.YtallmebpmoaopaaGreat.E
namespace Go.Proofs.YtallmebpmoaopaaGreat.E
open Go.RowKit Go.Proofs Go.ChangeShapes Go.WideShapes
set_option maxRecDepth 100000
variable {H : Type} {enc : TypeId × Value → H} {W : World}
abbrev shZone : List Sh := [.num .i64, .row [.num .i64]]
theorem fits_zone {r : List AV} (h : FitsL shZone r) : ∃ a : S.Zone, r = zoneC false a := by
  obtain ⟨c0, r0, rfl, h0, q0⟩ := h.cons
  obtain ⟨c1, r1, rfl, h1, q1⟩ := q0.cons
  obtain ⟨n0, rfl⟩ := h0.int
  obtain ⟨n1, rfl⟩ := h1.ints
  rw [q1.nil]
  exact ⟨⟨n0, n1⟩, rfl⟩
theorem rd_zone {v : Value} {d : DataW H} {p : List MemPlace} {base : Nat} (hw : Value.okWide Tryz.prog W .any base 62 v) (h : DataW.Trod enc Tryz.prog W 0 (fun _ => true) true 62 v d p) : ∃ a : S.Zone, V 0 noPlace (fun b => b < W.heap.size) W (.agg (zoneC false a)) v := by
  obtain ⟨cells, hf, hv⟩ := rd_agg (m := 20) (sh := shZone) Tryz.underlying62 (by kernel_rfl) hw h
  obtain ⟨a, rfl⟩ := fits_zone hf
  exact ⟨a, hv⟩
theorem rd_zones {v : Value} {d : DataW H} {p : List MemPlace} {base : Nat} (hw : Value.okWide Tryz.prog W .any base 22 v) (h : DataW.Trod enc Tryz.prog W 0 (fun _ => true) true 22 v d p) : ∃ a : List S.Zone, V 0 noPlace (fun b => b < W.heap.size) W (.lst false 2 (a.map (zoneC false))) v := by
  obtain ⟨c, hf, hv⟩ := rd_slice (m := 20) (sh := shZone) Tryz.underlying22 (by kernel_rfl) hw h
  obtain ⟨a, rfl⟩ := hf.rows (en := zoneC false) fun r hr => fits_zone hr
  exact ⟨a, hv⟩
theorem rd_ints {v : Value} {d : DataW H} {p : List MemPlace} {base : Nat} (hw : Value.okWide Tryz.prog W .any base 23 v) (h : DataW.Trod enc Tryz.prog W 0 (fun _ => true) true 23 v d p) : ∃ a : List Int, V 0 noPlace (fun b => b < W.heap.size) W (.lst false 1 (I a)) v := by
  obtain ⟨c, hf, hv⟩ := rd_slice (m := 20) (sh := [.num .i64]) Tryz.underlying23 (by kernel_rfl) hw h
  obtain ⟨a, rfl⟩ := hf.ints
  exact ⟨a, hv⟩
end Go.Proofs.YtallmebpmoaopaaGreat.E
namespace Go.Proofs.YtallmebpmoaopaaGreat.E
open Go.RowKit Go.Proofs Go.ChangeShapes Go.WideShapes
set_option maxRecDepth 100000
variable {H : Type} {enc : TypeId × Value → H} {W : World}
abbrev shDesk : List Sh := [.row shZone, .row [.num .i64], .num .i64, .num .i64]
theorem fits_desk {r : List AV} (h : FitsL shDesk r) : ∃ a : S.Desk, r = deskC false a := by
  obtain ⟨c0, r0, rfl, h0, q0⟩ := h.cons
  obtain ⟨c1, r1, rfl, h1, q1⟩ := q0.cons
  obtain ⟨c2, r2, rfl, h2, q2⟩ := q1.cons
  obtain ⟨c3, r3, rfl, h3, q3⟩ := q2.cons
  obtain ⟨n0, rfl⟩ := h0.rows (en := zoneC false) fun r hr => fits_zone hr
  obtain ⟨n1, rfl⟩ := h1.ints
  obtain ⟨n2, rfl⟩ := h2.int
  obtain ⟨n3, rfl⟩ := h3.int
  rw [q3.nil]
  exact ⟨⟨n0, ⟨n1, n2, n3⟩⟩, rfl⟩
theorem rd_desk {v : Value} {d : DataW H} {p : List MemPlace} {base : Nat} (hw : Value.okWide Tryz.prog W .any base 27 v) (h : DataW.Trod enc Tryz.prog W 0 (fun _ => true) true 27 v d p) : ∃ a : S.Desk, V 0 noPlace (fun b => b < W.heap.size) W (.agg (deskC false a)) v := by
  obtain ⟨cells, hf, hv⟩ := rd_agg (m := 20) (sh := shDesk) Tryz.underlying27 (by kernel_rfl) hw h
  obtain ⟨a, rfl⟩ := fits_desk hf
  exact ⟨a, hv⟩
end Go.Proofs.YtallmebpmoaopaaGreat.E
