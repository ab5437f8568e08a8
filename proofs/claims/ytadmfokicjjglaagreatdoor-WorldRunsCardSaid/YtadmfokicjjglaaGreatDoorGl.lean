
/- Gl: what a row's listed variables give a contract; the witness's world. -/
import Derived.Test.YtadmfokicjjglaaGreatDoorRows
import Derived.Test.YtadmfokicjjglaaGreatDoorX1
import Derived.LaidLaws
import Derived.Lay
import Derived.LaidSub
import Derived.MakeChecks
import Derived.Shelf.Vars
import Derived.Stop.LaidErr
import Derived.Lib.LaidTab
namespace Go.Proofs.YtadmfokicjjglaaGreatDoor.E
open Go.RowKit Go.Proofs
set_option linter.unusedVariables false
noncomputable def listed : List (String × DataW Unit) := [("math/bits.deBruijn32tab", Rows.laid_math_bits_deBruijn32tab), ("math/bits.deBruijn64tab", Rows.laid_math_bits_deBruijn64tab), ("internal/strconv.uint64pow10", Rows.laid_internal_strconv_uint64pow10), ("unicode/utf8.acceptRanges", Rows.laid_unicode_utf8_acceptRanges), ("strconv.ErrRange", Rows.laid_strconv_ErrRange), ("strconv.ErrSyntax", Rows.laid_strconv_ErrSyntax), ("unicode/utf8.first", Rows.laid_unicode_utf8_first)]
theorem iface_cell {P : Program} {n nm : String} {d : DataW Unit} {r : List (String × DataW Unit)} {W : World} {g : Nat} {ti : TypeId} {ms : Array (String × TypeId)}
  (h : laidMet P ((n, .iface nm d) :: r) W) (hg : P.globalNamed n = some g) (ht : (P.globals[g]?).map (·.type) = some ti) (hi : P.underlying ti = some (.interface ms)) :
  ∃ u v, W.cell? ⟨g, 0, none⟩ = some (.iface u v) := by
 obtain ⟨ps, ⟨g0, t0, cs0, f0, p0, q0, hg0, ht0, hv0, hd0, _, e0⟩, _, _⟩ := h;obtain rfl := Option.some.inj (hg.symm.trans hg0);obtain rfl := Option.some.inj (ht.symm.trans ht0);obtain ⟨l0⟩ := cs0;obtain ⟨f1, u, v, rfl, hn, h1⟩ := Go.iface_of_trod hi hd0;exact ⟨u, v, by simpa using World.var?_cell hg0 hv0 0⟩
theorem lt_of_cell {w : World} {g i : Nat} {v : Value} (h : w.cell? ⟨g, i, none⟩ = some v) : g < w.heap.size := by
 rcases Nat.lt_or_ge g w.heap.size with h' | h'
 ·exact h'
 ·simp [World.cell?, Array.getElem?_eq_none h'] at h
theorem glob_of {W : World} (hL : laidMetH Tryz.prog listed W) (hs : W.ShapedOpen Tryz.prog) : Glob W.heap.size W := by
 rw [MakeChecks.laidMetH_plain _ _ _ (by kernel_rfl)] at hL;have n0 : Tryz.prog.globalNamed "internal/bytealg.MaxLen" = some 0 := by kernel_rfl
 have n1 : Tryz.prog.globalNamed "internal/strconv.uint64pow10" = some 1 := by kernel_rfl
 have n2 : Tryz.prog.globalNamed "strconv.ErrSyntax" = some 2 := by kernel_rfl
 have n3 : Tryz.prog.globalNamed "strconv.ErrRange" = some 3 := by kernel_rfl
 obtain ⟨m, hm⟩ := cell_of_shapedOpen_int (P := Tryz.prog) (g := 0) (t := 3) (zero := #[.int .i64 0]) hs (of_decide_eq_true (by kernel_rfl)) (by kernel_rfl) rfl (by kernel_rfl) (by kernel_rfl) Tryz.underlying3;have hp := Lib.tabIs_of_head (zs := Lib.pow10Tab) n1 (by kernel_rfl) Tryz.underlying250 Tryz.underlying234 (by kernel_rfl) (by kernel_rfl) hL.tail.tail;obtain ⟨u1, v1, h1⟩ := iface_cell hL.tail.tail.tail.tail n3 (by kernel_rfl) Tryz.underlying217;obtain ⟨u2, v2, h2⟩ := iface_cell hL.tail.tail.tail.tail.tail n2 (by kernel_rfl) Tryz.underlying217;refine ⟨?_, ?_, ?_, ?_⟩ <;> intro g hg
 ·obtain rfl := Option.some.inj (n0.symm.trans hg);exact ⟨lt_of_cell hm, m, hm⟩
 ·obtain rfl := Option.some.inj (n1.symm.trans hg);exact ⟨lt_of_cell (hp.cell n1 0 (by decide)), hp⟩
 ·obtain rfl := Option.some.inj (n2.symm.trans hg);exact ⟨lt_of_cell h2, _, h2, .inr ⟨_, _, rfl⟩⟩
 ·obtain rfl := Option.some.inj (n3.symm.trans hg);exact ⟨lt_of_cell h1, _, h1, .inr ⟨_, _, rfl⟩⟩
set_option maxRecDepth 100000 in
theorem laid_met (os : Os) (args : Array Value) : laidMetH Tryz.prog listed ((World.laidAll Tryz.prog os listed).forCall (fun _ _ => 0) ⟨#[], args, []⟩).memory := by
 rw [MakeChecks.laidMetH_plain _ _ _ (by kernel_rfl)];exact laidMet_laidAll args (by kernel_rfl) (by kernel_rfl)
set_option maxRecDepth 100000 in
theorem laid_shaped (os : Os) (args : Array Value) : ((World.laidAll Tryz.prog os listed).forCall (fun _ _ => 0) ⟨#[], args, []⟩).Shaped Tryz.prog :=
 World.shaped_of_ZipB (by kernel_rfl) (by kernel_rfl)
end Go.Proofs.YtadmfokicjjglaaGreatDoor.E
