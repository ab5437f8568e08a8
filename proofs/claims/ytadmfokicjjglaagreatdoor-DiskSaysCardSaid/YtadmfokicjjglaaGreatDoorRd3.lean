/- Rd3: RdRec: records that came in. RdDisk: bytes and disks that came in. -/
import Derived.Test.YtadmfokicjjglaaGreatDoorRdB
import Derived.Test.YtadmfokicjjglaaGreatDoorWa
import Derived.Test.YtadmfokicjjglaaGreatDoorQ1
namespace Go.Proofs.YtadmfokicjjglaaGreatDoor.E
open Go.RowKit Go.Proofs Go.ChangeShapes Go.WideShapes
set_option maxRecDepth 100000
variable {H : Type} {enc : TypeId × Value → H} {W : World}
abbrev shRec : List Sh := [.num .i64, .num .i64, .num .i64, .num .i64, .num .i64, .num .i64, .row [.num .i64]]
theorem fits_rec {r : List AV} (h : FitsL shRec r) : ∃ a : S.Rec, r = recC false a := by
  obtain ⟨c0, r0, rfl, h0, q0⟩ := h.cons
  obtain ⟨c1, r1, rfl, h1, q1⟩ := q0.cons
  obtain ⟨c2, r2, rfl, h2, q2⟩ := q1.cons
  obtain ⟨c3, r3, rfl, h3, q3⟩ := q2.cons
  obtain ⟨c4, r4, rfl, h4, q4⟩ := q3.cons
  obtain ⟨c5, r5, rfl, h5, q5⟩ := q4.cons
  obtain ⟨c6, r6, rfl, h6, q6⟩ := q5.cons
  obtain ⟨n0, rfl⟩ := h0.int
  obtain ⟨n1, rfl⟩ := h1.int
  obtain ⟨n2, rfl⟩ := h2.int
  obtain ⟨n3, rfl⟩ := h3.int
  obtain ⟨n4, rfl⟩ := h4.int
  obtain ⟨n5, rfl⟩ := h5.int
  obtain ⟨n6, rfl⟩ := h6.ints
  rw [q6.nil]
  exact ⟨⟨n0, n1, ⟨n2, n3, n4, n5, n6⟩⟩, rfl⟩
theorem rd_rec {v : Value} {d : DataW H} {p : List MemPlace} {base : Nat} (hw : Value.okWide Tryz.prog W .any base 51 v) (h : DataW.Trod enc Tryz.prog W 0 (fun _ => true) true 51 v d p) : ∃ a : S.Rec, V 0 noPlace (fun b => b < W.heap.size) W (.agg (recC false a)) v := by
  obtain ⟨cells, hf, hv⟩ := rd_agg (m := 20) (sh := shRec) Tryz.underlying51 (by kernel_rfl) hw h
  obtain ⟨a, rfl⟩ := fits_rec hf
  exact ⟨a, hv⟩
end Go.Proofs.YtadmfokicjjglaaGreatDoor.E
namespace Go.Proofs.YtadmfokicjjglaaGreatDoor.E
open Go.RowKit Go.Proofs Go.ChangeShapes Go.WideShapes
set_option maxRecDepth 100000
variable {H : Type} {enc : TypeId × Value → H} {W : World}
theorem Fits.bytes {c : AV} (h : Fits (.row [.num .u8]) c) : ∃ xs : List UInt8, c = .lst false 1 (B8 xs) :=
  h.rows (en := fun b : UInt8 => [AV.at (.int .u8 b.toNat)]) fun r hr => by
    obtain ⟨c, r', rfl, h1, h2⟩ := hr.cons
    rw [h2.nil]
    cases h1 with
    | num _ n hwf =>
      have hn : 0 ≤ n ∧ n ≤ 255 := by simpa [Lit.wf, IntKind.min, IntKind.max, IntKind.signed, IntKind.bits] using hwf
      refine ⟨UInt8.ofNat n.toNat, ?_⟩
      have e : ((UInt8.ofNat n.toNat).toNat : Int) = n := by
        rw [UInt8.toNat_ofNat']
        have : n.toNat % 2 ^ 8 = n.toNat := Nat.mod_eq_of_lt (by omega)
        rw [this]
        omega
      rw [e]
abbrev shDisk : List Sh := [.row [.num .u8], .row [.num .u8]]
theorem fits_disk {r : List AV} (h : FitsL shDisk r) : ∃ a : S.Disk, r = diskC false a := by
  obtain ⟨c0, r0, rfl, h0, q0⟩ := h.cons
  obtain ⟨c1, r1, rfl, h1, q1⟩ := q0.cons
  obtain ⟨n0, rfl⟩ := h0.bytes
  obtain ⟨n1, rfl⟩ := h1.bytes
  rw [q1.nil]
  exact ⟨⟨n0, n1⟩, rfl⟩
theorem rd_disk {v : Value} {d : DataW H} {p : List MemPlace} {base : Nat} (hw : Value.okWide Tryz.prog W .any base 33 v) (h : DataW.Trod enc Tryz.prog W 0 (fun _ => true) true 33 v d p) : ∃ a : S.Disk, V 0 noPlace (fun b => b < W.heap.size) W (.agg (diskC false a)) v := by
  obtain ⟨cells, hf, hv⟩ := rd_agg (m := 20) (sh := shDisk) Tryz.underlying33 (by kernel_rfl) hw h
  obtain ⟨a, rfl⟩ := fits_disk hf
  exact ⟨a, hv⟩
end Go.Proofs.YtadmfokicjjglaaGreatDoor.E
