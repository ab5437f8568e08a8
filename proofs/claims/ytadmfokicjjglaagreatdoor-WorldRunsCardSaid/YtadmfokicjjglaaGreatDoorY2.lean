/- Y2: Yi: law.YardFew. Yj: law.YardFew: the walk. Yk: law.YardOthers. -/
import Derived.Test.YtadmfokicjjglaaGreatDoorY1
namespace Go.Proofs.YtadmfokicjjglaaGreatDoor.E
open Go.RowKit Go.Proofs
set_option maxRecDepth 100000
set_option maxHeartbeats 1000000
set_option linter.unusedSimpArgs false
def S.moveZ (q : Int) (zs : List S.Zone) (n : Int) (data : List Int) : List S.Zone × Int :=
 if q = 0 then S.holdZ zs n else if q = 1 then S.closeZ zs n else if q = 2 then S.finishZ zs n else if q = 3 then S.resetZ zs n else ((S.writeZ zs n data).1, (S.writeZ zs n data).2.2)
def KeptZ (zs : List S.Zone) (n : Nat) (q : Int) (m : List S.Zone) : Prop :=
 m.length = 4 /\ ∀ (i : Nat) (x y : S.Zone), zs[i]? = some x -> m[i]? = some y -> (i = n /\ q = 3 -> y.d = []) /\ (¬ (i = n /\ q = 3) -> y.d.take x.d.length = x.d /\ x.d.length <= y.d.length /\ (x.d.length < y.d.length -> i = n /\ q = 4))
theorem room_d {zs : List S.Zone} {n : Nat} {z : S.Zone} (hz : zs[n]? = some z) {i : Nat} {x y : S.Zone} (hx : zs[i]? = some x) (hy : (S.room zs n).1[i]? = some y) : y.d = x.d := by
 rcases room_cases hz with e | e | ⟨k, u, hk, hu, -, -, -, -, e⟩
 ·rw [e] at hy; simp only at hy; rw [hx] at hy; cases hy; rfl
 ·rw [e] at hy; simp only at hy; rw [hx] at hy; cases hy; rfl
 ·rw [e] at hy;simp only at hy;by_cases hik : i = k
  ·subst hik;rw [get_set_self hu] at hy;rw [hu] at hx;cases hx; cases hy; rfl
  ·rw [List.getElem?_set_ne (Ne.symm hik)] at hy;rw [hx] at hy; cases hy; rfl
theorem kept_of {zs l' : List S.Zone} {n : Nat} {q : Int} {z w : S.Zone} (hz : zs[n]? = some z) (hl : l'.length = 4) (hd : ∀ (i : Nat) (x y : S.Zone), zs[i]? = some x -> l'[i]? = some y -> y.d = x.d)
  (hw : (q = 3 -> w.d = []) /\ (q ≠ 3 -> w.d.take z.d.length = z.d /\ z.d.length <= w.d.length /\ (z.d.length < w.d.length -> q = 4))) : KeptZ zs n q (l'.set n w) := by
 refine ⟨by simpa using hl, fun i x y hx hy => ?_⟩;by_cases hin : i = n
 ·subst hin;rw [hz] at hx;cases hx;have hi : i < l'.length := by have := (List.getElem?_eq_some_iff.1 hy).1; simpa using this
  simp [hi] at hy;subst hy;refine ⟨fun g => hw.1 g.2, fun g => ?_⟩;have hq : q ≠ 3 := fun e => g ⟨rfl, e⟩
  obtain ⟨a, b, c⟩ := hw.2 hq;exact ⟨a, b, fun h => ⟨rfl, c h⟩⟩
 ·rw [List.getElem?_set_ne (Ne.symm hin)] at hy;have := hd i x y hx hy;rw [this];exact ⟨fun g => absurd g.1 hin, fun _ => ⟨by simp, Nat.le_refl _, fun h => absurd h (Nat.lt_irrefl _)⟩⟩
theorem move_kept {zs : List S.Zone} {n : Nat} (hc : S.checkZones zs = 0) (hn : n < 4) {q : Int} (hq : q = 0 \/ q = 1 \/ q = 2 \/ q = 3 \/ q = 4) {data : List Int} (h : (S.moveZ q zs n data).2 = 0) : S.checkZones (S.moveZ q zs n data).1 = 0 /\ KeptZ zs n q (S.moveZ q zs n data).1 := by
 have hl := (checkZones_parts hc).1;obtain ⟨z, hz⟩ : ∃ z, zs[n]? = some z := ⟨zs[n]'(by omega), by simp⟩;have hzc := (checkZones_parts hc).2.1 z (List.mem_of_getElem? hz);have hrd := ready_of hc hn;have same : ∀ (i : Nat) (x y : S.Zone), zs[i]? = some x -> zs[i]? = some y -> y.d = x.d := fun i x y h1 h2 => by rw [h1] at h2; cases h2; rfl
 obtain ⟨g1, g2⟩ := room_get hz;rcases hq with rfl | rfl | rfl | rfl | rfl
 ·have e : S.moveZ 0 zs n data = S.holdZ zs n := rfl;rw [e] at h ⊢;unfold S.holdZ at h ⊢;rw [if_neg (by simp [hrd])] at h ⊢;simp only [Int.toNat_natCast] at h ⊢;by_cases h3 : (S.room zs n).2 ≠ 0
  ·rw [if_pos h3] at h; exact absurd h h3
  rw [if_neg h3];have h3 : (S.room zs n).2 = 0 := by simpa using h3
  simp only [List.getD, g1, Option.getD_some]
  have hy : S.checkZone ⟨2, z.d⟩ = 0 := by
   have hn8 : z.d.length ≠ 8 := by
    intro h8;rcases room_cases2 hz h3 with ⟨-, c | ⟨-, c, -⟩⟩ | ⟨k, x, -, -, -, -, c, -⟩
    ·unfold S.checkZone at hzc;simp [S.isOpen] at c;split at hzc; · cases hzc
     split at hzc; · cases hzc
     split at hzc; · cases hzc
     rw [if_pos (by right; left; exact ⟨h8, by omega⟩)] at hzc; cases hzc
    all_goals
     unfold S.checkZone at hzc;split at hzc; · cases hzc
     split at hzc; · cases hzc
     split at hzc; · cases hzc
     rw [if_pos (by right; left; exact ⟨h8, c⟩)] at hzc; cases hzc
   unfold S.checkZone at hzc ⊢;split at hzc; · cases hzc
   split at hzc; · cases hzc
   split at hzc; · cases hzc
   rename_i h5 h6;rw [if_neg (by simp), if_neg h5, if_neg h6, if_neg (by simp; exact hn8)]
  refine ⟨room_ok hc hz h3 hy (by simp [S.isOpen]), kept_of hz (by rw [g2, hl]) (fun i x y => room_d hz) ⟨by simp, fun _ => by simp⟩⟩
 ·have e : S.moveZ 1 zs n data = S.closeZ zs n := rfl;rw [e] at h ⊢;unfold S.closeZ at h ⊢;rw [if_neg (by simp [hrd])] at h ⊢;simp only [Int.toNat_natCast, List.getD, hz, Option.getD_some] at h ⊢;by_cases h3 : S.isOpen z = false
  ·rw [if_pos h3] at h; cases h
  rw [if_neg h3];have h3 : S.isOpen z = true := by simpa using h3
  obtain ⟨s1, s2⟩ := shut_ok hzc h3;refine ⟨checkZones_set hc hz s1 (fun _ => h3) (fun _ => by simp [S.isOpen] at h3; simp [S.isActive]; omega), kept_of hz hl same ⟨by simp, fun _ => by simp [S.shutZ]⟩⟩
 ·have e : S.moveZ 2 zs n data = S.finishZ zs n := rfl;rw [e] at h ⊢;unfold S.finishZ at h ⊢;rw [if_neg (by simp [hrd])];simp only [Int.toNat_natCast, List.getD, hz, Option.getD_some];exact ⟨checkZones_set hc hz (full_ok hzc) (by simp [S.isOpen]) (by simp [S.isActive]), kept_of hz hl same ⟨by simp, fun _ => by simp⟩⟩
 ·have e : S.moveZ 3 zs n data = S.resetZ zs n := rfl;rw [e] at h ⊢;unfold S.resetZ at h ⊢;rw [if_neg (by simp [hrd])];simp only [Int.toNat_natCast];exact ⟨checkZones_set hc hz (by decide) (by simp [S.isOpen, S.Zone.zero]) (by simp [S.isActive, S.Zone.zero]), kept_of hz hl same ⟨fun _ => rfl, by simp⟩⟩
 ·have e : S.moveZ 4 zs n data = ((S.writeZ zs n data).1, (S.writeZ zs n data).2.2) := rfl;rw [e] at h ⊢;obtain ⟨k1, k2, k3, k4⟩ := writeZ_ok hz h;obtain ⟨w1, w2, w3, w4, w5, w6, w7⟩ := write_ok k2;rw [k4];refine ⟨room_ok hc hz k3 w2 (fun ha => ?_), kept_of hz (by rw [g2, hl]) (fun i x y => room_d hz) ⟨by simp, fun _ => ⟨by rw [w3]; simp, by rw [w3]; simp, fun _ => rfl⟩⟩⟩;simp [S.isActive, S.isOpen, w7] at ha ⊢;grind
set_option linter.unusedVariables false
end Go.Proofs.YtadmfokicjjglaaGreatDoor.E
