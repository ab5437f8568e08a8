/- Rd3: RdRec: records that came in. RdHall: halls and records that came in. RdDisk: bytes and disks that came in. RdWorld: worlds, mail, happenings: their cells; those that came in. -/
import Derived.Test.YtadmfokicjjglaaGreatDoorRdB
import Derived.Test.YtadmfokicjjglaaGreatDoorWa
import Derived.Test.YtadmfokicjjglaaGreatDoorRd2
import Derived.Test.YtadmfokicjjglaaGreatDoorK1
import Derived.Test.YtadmfokicjjglaaGreatDoorQ1
import Derived.Test.YtadmfokicjjglaaGreatDoorSq
namespace Go.Proofs.YtadmfokicjjglaaGreatDoor.E
open Go.RowKit Go.Proofs Go.ChangeShapes Go.WideShapes
set_option maxRecDepth 100000
variable {H : Type} {enc : TypeId × Value -> H} {W : World}
variable {H : Type} {enc : TypeId × Value -> H} {W : World}
abbrev shLast : List Sh := [.num .i64, .num .i64, .num .i64, .row [.num .i64]]
abbrev shHall : List Sh := [.row shZone, .row [.num .i64], .num .i64, .num .i64, .row shLast]
theorem fits_last {r : List AV} (h : FitsL shLast r) : ∃ a : S.Last, r = lastC false a := by
 obtain ⟨c0, r0, rfl, h0, q0⟩ := h.cons;obtain ⟨c1, r1, rfl, h1, q1⟩ := q0.cons;obtain ⟨c2, r2, rfl, h2, q2⟩ := q1.cons;obtain ⟨c3, r3, rfl, h3, q3⟩ := q2.cons;obtain ⟨n0, rfl⟩ := h0.int;obtain ⟨n1, rfl⟩ := h1.int;obtain ⟨n2, rfl⟩ := h2.int;obtain ⟨n3, rfl⟩ := h3.ints;rw [q3.nil];exact ⟨⟨n0, ⟨n1, n2, n3⟩⟩, rfl⟩
variable {H : Type} {enc : TypeId × Value -> H} {W : World}
theorem Fits.bytes {c : AV} (h : Fits (.row [.num .u8]) c) : ∃ xs : List UInt8, c = .lst false 1 (B8 xs) :=
 h.rows (en := fun b : UInt8 => [AV.at (.int .u8 b.toNat)]) fun r hr => by
  obtain ⟨c, r', rfl, h1, h2⟩ := hr.cons;rw [h2.nil];cases h1 with
  | num _ n hwf =>
   have hn : 0 <= n /\ n <= 255 := by simpa [Lit.wf, IntKind.min, IntKind.max, IntKind.signed, IntKind.bits] using hwf
   refine ⟨UInt8.ofNat n.toNat, ?_⟩
   have e : ((UInt8.ofNat n.toNat).toNat : Int) = n := by
    rw [UInt8.toNat_ofNat'];have : n.toNat % 2 ^ 8 = n.toNat := Nat.mod_eq_of_lt (by omega);rw [this];omega
   rw [e]
abbrev shDisk : List Sh := [.row [.num .u8], .row [.num .u8]]
abbrev mailC (fr : Bool) (m : S.Mail) : List AV := [.at (.bool m.back), .at (.int .i64 m.who), .at (.int .i64 m.seq), .at (.int .i64 m.c.kind), .at (.int .i64 m.c.z), .at (.int .i64 m.c.n), .at (.int .i64 m.c.pos), .lst fr 1 (I m.c.d), .at (.int .i64 m.a.e), .at (.int .i64 m.a.pos), .lst fr 1 (I m.a.d)]
abbrev worldC (fr : Bool) (w : S.World) : List AV := [.lst fr 2 (w.h.d.zs.map (zoneC false)), .lst fr 1 (I w.h.d.b.k), .at (.int .i64 w.h.d.b.h), .at (.int .i64 w.h.d.b.t), .lst fr 4 (w.h.last.map (lastC false)), .lst fr 1 (B8 w.d.safe), .lst fr 1 (B8 w.d.wait), .at (.bool w.up), .lst fr 8 (w.hand.map (handC false)), .lst fr 11 (w.mail.map (mailC false))]
abbrev hapC (fr : Bool) (x : S.Hap) : List AV := [.at (.int .i64 x.kind), .at (.int .i64 x.who), .at (.int .i64 x.n), .at (.int .i64 x.c.kind), .at (.int .i64 x.c.z), .at (.int .i64 x.c.n), .at (.int .i64 x.c.pos), .lst fr 1 (I x.c.d)]
variable {H : Type} {enc : TypeId × Value -> H} {W : World}
abbrev shMail : List Sh := [.boo, .num .i64, .num .i64, .num .i64, .num .i64, .num .i64, .num .i64, .row [.num .i64], .num .i64, .num .i64, .row [.num .i64]]
abbrev shWorld : List Sh := shHall ++ shDisk ++ [.boo, .row shHand, .row shMail]
abbrev shHap : List Sh := [.num .i64, .num .i64, .num .i64, .num .i64, .num .i64, .num .i64, .num .i64, .row [.num .i64]]
theorem fits_mail {r : List AV} (h : FitsL shMail r) : ∃ a : S.Mail, r = mailC false a := by
 obtain ⟨c0, r0, rfl, h0, q0⟩ := h.cons;obtain ⟨c1, r1, rfl, h1, q1⟩ := q0.cons;obtain ⟨c2, r2, rfl, h2, q2⟩ := q1.cons;obtain ⟨c3, r3, rfl, h3, q3⟩ := q2.cons;obtain ⟨c4, r4, rfl, h4, q4⟩ := q3.cons;obtain ⟨c5, r5, rfl, h5, q5⟩ := q4.cons;obtain ⟨c6, r6, rfl, h6, q6⟩ := q5.cons;obtain ⟨c7, r7, rfl, h7, q7⟩ := q6.cons;obtain ⟨c8, r8, rfl, h8, q8⟩ := q7.cons;obtain ⟨c9, r9, rfl, h9, q9⟩ := q8.cons;obtain ⟨c10, r10, rfl, h10, q10⟩ := q9.cons;obtain ⟨n0, rfl⟩ := h0.bool;obtain ⟨n1, rfl⟩ := h1.int;obtain ⟨n2, rfl⟩ := h2.int;obtain ⟨n3, rfl⟩ := h3.int;obtain ⟨n4, rfl⟩ := h4.int;obtain ⟨n5, rfl⟩ := h5.int;obtain ⟨n6, rfl⟩ := h6.int;obtain ⟨n7, rfl⟩ := h7.ints;obtain ⟨n8, rfl⟩ := h8.int;obtain ⟨n9, rfl⟩ := h9.int;obtain ⟨n10, rfl⟩ := h10.ints;rw [q10.nil];exact ⟨⟨n0, n1, n2, ⟨n3, n4, n5, n6, n7⟩, ⟨n8, n9, n10⟩⟩, rfl⟩
theorem fits_hap {r : List AV} (h : FitsL shHap r) : ∃ a : S.Hap, r = hapC false a := by
 obtain ⟨c0, r0, rfl, h0, q0⟩ := h.cons;obtain ⟨c1, r1, rfl, h1, q1⟩ := q0.cons;obtain ⟨c2, r2, rfl, h2, q2⟩ := q1.cons;obtain ⟨c3, r3, rfl, h3, q3⟩ := q2.cons;obtain ⟨c4, r4, rfl, h4, q4⟩ := q3.cons;obtain ⟨c5, r5, rfl, h5, q5⟩ := q4.cons;obtain ⟨c6, r6, rfl, h6, q6⟩ := q5.cons;obtain ⟨c7, r7, rfl, h7, q7⟩ := q6.cons;obtain ⟨n0, rfl⟩ := h0.int;obtain ⟨n1, rfl⟩ := h1.int;obtain ⟨n2, rfl⟩ := h2.int;obtain ⟨n3, rfl⟩ := h3.int;obtain ⟨n4, rfl⟩ := h4.int;obtain ⟨n5, rfl⟩ := h5.int;obtain ⟨n6, rfl⟩ := h6.int;obtain ⟨n7, rfl⟩ := h7.ints;rw [q7.nil];exact ⟨⟨n0, n1, n2, ⟨n3, n4, n5, n6, n7⟩⟩, rfl⟩
theorem fits_world {r : List AV} (h : FitsL shWorld r) : ∃ a : S.World, r = worldC false a := by
 obtain ⟨c0, r0, rfl, h0, q0⟩ := h.cons;obtain ⟨c1, r1, rfl, h1, q1⟩ := q0.cons;obtain ⟨c2, r2, rfl, h2, q2⟩ := q1.cons;obtain ⟨c3, r3, rfl, h3, q3⟩ := q2.cons;obtain ⟨c4, r4, rfl, h4, q4⟩ := q3.cons;obtain ⟨c5, r5, rfl, h5, q5⟩ := q4.cons;obtain ⟨c6, r6, rfl, h6, q6⟩ := q5.cons;obtain ⟨c7, r7, rfl, h7, q7⟩ := q6.cons;obtain ⟨c8, r8, rfl, h8, q8⟩ := q7.cons;obtain ⟨c9, r9, rfl, h9, q9⟩ := q8.cons;obtain ⟨n0, rfl⟩ := h0.rows (en := zoneC false) fun r hr => fits_zone hr
 obtain ⟨n1, rfl⟩ := h1.ints;obtain ⟨n2, rfl⟩ := h2.int;obtain ⟨n3, rfl⟩ := h3.int;obtain ⟨n4, rfl⟩ := h4.rows (en := lastC false) fun r hr => fits_last hr
 obtain ⟨n5, rfl⟩ := h5.bytes;obtain ⟨n6, rfl⟩ := h6.bytes;obtain ⟨n7, rfl⟩ := h7.bool;obtain ⟨n8, rfl⟩ := h8.rows (en := handC false) fun r hr => fits_hand hr
 obtain ⟨n9, rfl⟩ := h9.rows (en := mailC false) fun r hr => fits_mail hr
 rw [q9.nil];exact ⟨⟨⟨⟨n0, ⟨n1, n2, n3⟩⟩, n4⟩, ⟨n5, n6⟩, n7, n8, n9⟩, rfl⟩
theorem rd_world {v : Value} {d : DataW H} {p : List MemPlace} {base : Nat} (hw : Value.okWide Tryz.prog W .any base 37 v) (h : DataW.Trod enc Tryz.prog W 0 (fun _ => true) true 37 v d p) : ∃ a : S.World, V 0 noPlace (fun b => b < W.heap.size) W (.agg (worldC false a)) v := by
 obtain ⟨cells, hf, hv⟩ := rd_agg (m := 20) (sh := shWorld) Tryz.underlying37 (by kernel_rfl) hw h;obtain ⟨a, rfl⟩ := fits_world hf;exact ⟨a, hv⟩
theorem rd_hap {v : Value} {d : DataW H} {p : List MemPlace} {base : Nat} (hw : Value.okWide Tryz.prog W .any base 41 v) (h : DataW.Trod enc Tryz.prog W 0 (fun _ => true) true 41 v d p) : ∃ a : S.Hap, V 0 noPlace (fun b => b < W.heap.size) W (.agg (hapC false a)) v := by
 obtain ⟨cells, hf, hv⟩ := rd_agg (m := 20) (sh := shHap) Tryz.underlying41 (by kernel_rfl) hw h;obtain ⟨a, rfl⟩ := fits_hap hf;exact ⟨a, hv⟩
theorem rd_haps {v : Value} {d : DataW H} {p : List MemPlace} {base : Nat} (hw : Value.okWide Tryz.prog W .any base 66 v) (h : DataW.Trod enc Tryz.prog W 0 (fun _ => true) true 66 v d p) : ∃ a : List S.Hap, V 0 noPlace (fun b => b < W.heap.size) W (.lst false 8 (a.map (hapC false))) v := by
 obtain ⟨c, hf, hv⟩ := rd_slice (m := 20) (sh := shHap) Tryz.underlying66 (by kernel_rfl) hw h;obtain ⟨a, rfl⟩ := hf.rows (en := hapC false) fun r hr => fits_hap hr
 exact ⟨a, hv⟩
end Go.Proofs.YtadmfokicjjglaaGreatDoor.E
