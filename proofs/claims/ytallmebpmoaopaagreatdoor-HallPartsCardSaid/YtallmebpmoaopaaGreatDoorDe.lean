
/- De: law.served, law.DeskMay, law.DeskReads. -/
import Derived.Test.YtallmebpmoaopaaGreatDoorDd
import Derived.Test.YtallmebpmoaopaaGreatDoorHe
namespace Go.Proofs.YtallmebpmoaopaaGreatDoor.E
open Go.RowKit Go.Proofs
set_option maxRecDepth 100000
set_option maxHeartbeats 1000000
set_option linter.unusedSimpArgs false
set_option linter.unusedVariables false

theorem do_eq {d : S.Desk} {who : Int} {c : S.Cmd} {r : S.Desk × S.Answer × Int} (e : S.doDesk d who c = r) : C Tryz.prog 41 [.agg (deskC false d), Int' who, .agg (cmdC false c)] (doR r) [] := e ▸ desk_Do d who c
/-- a command without data -/
theorem sub_cmdN {k z n p : Int} : SubA (.agg [Int' k, Int' z, Int' n, Int' p, .nl]) (.agg (cmdC false ⟨k, z, n, p, []⟩)) := .agg (.cons (.refl _) (.cons (.refl _) (.cons (.refl _) (.cons (.refl _) (.cons .nl (.nil _))))))
theorem doN_eq {d : S.Desk} {who k z n p : Int} {r : S.Desk × S.Answer × Int} (e : S.doDesk d who ⟨k, z, n, p, []⟩ = r) : C Tryz.prog 41 [.agg (deskC false d), Int' who, .agg [Int' k, Int' z, Int' n, Int' p, .nl]] (doR r) [] :=
  (do_eq e).args (.cons (.refl _) (.cons (.refl _) (.cons sub_cmdN (.nil _))))

abbrev DK1 : S.Desk := ⟨[S.Zone.zero, ⟨1, [5, 6]⟩, S.Zone.zero, S.Zone.zero], S.Book.new⟩
abbrev DK2 : S.Desk := ⟨[S.Zone.zero, ⟨1, [5, 6, 7]⟩, S.Zone.zero, S.Zone.zero], S.Book.new⟩

theorem read_done {m : S.Desk} {zs : List S.Zone} {rd : Int} {c : S.Cmd} {a : S.Answer} (hm : S.checkDesk m = 0) (hr : 0 ≤ rd ∧ rd < 3) (hc : S.checkCmd c = 0) (hk : c.kind = 5 ∨ c.kind = 6) (hl : Left zs c m.zs a) :
    S.doDesk m rd ⟨7, c.z, c.d.length, a.pos, []⟩ = (m, if S.might m.b rd false = true then ⟨0, 0, c.d⟩ else ⟨8, 0, []⟩, 0) := by
  obtain ⟨n, x, y, hz, hx, hy, hd, hp, h1⟩ := hl.wrote hk
  have hyc := (checkZones_parts hl.ok).2.1 y (List.mem_of_getElem? hy)
  have hl8 := checkZone_len hyc
  rw [hd] at hl8
  simp at hl8
  obtain ⟨n', hz', hn'⟩ := hl.zone
  have hlen := (checkZones_parts hl.ok).1
  have hcc : S.checkCmd ⟨7, c.z, c.d.length, a.pos, []⟩ = 0 := by
    unfold S.checkCmd
    rw [if_neg (by simp), if_neg (by simp [S.misused, S.uZ, S.uA, S.uN, S.uD]), if_neg (by simp), if_neg ?_]
    simp [S.bad]
    omega
  rw [do_of ⟨hm, hr.1, hr.2, hcc⟩]
  unfold S.doneDesk
  simp only [show ¬ (8 : Int) ≤ 7 by omega, if_false, decide_true, Bool.not_true]
  cases hmt : S.might m.b rd false with
  | false => simp
  | true =>
    have e : S.deskZones m.zs ⟨7, c.z, c.d.length, a.pos, []⟩ = (m.zs, ⟨0, 0, c.d⟩) := by
      unfold S.deskZones
      simp only
      rw [if_neg (by simp), if_neg (by simp), if_neg (by simp), if_neg (by simp), if_neg (by simp), if_neg (by simp), if_neg (by omega)]
      simp only [hz, Int.toNat_natCast, getD_of hy, hp]
      rw [read_back hyc hd]
    rw [e]
    simp

theorem read_same {d : S.Desk} {w : Int} {c : S.Cmd} (h : Pre d w c) (hk : c.kind = 7) : (S.doneDesk d w c).1 = d ∧ ((S.doneDesk d w c).2.e = 8 ∨ (S.doneDesk d w c).2 = (S.deskZones d.zs c).2) := by
  obtain ⟨sm, hz, hb⟩ := small_of h.d0
  unfold S.doneDesk
  simp only [if_neg (show ¬ 8 ≤ c.kind by omega)]
  by_cases hm : S.might d.b w (!decide (c.kind = 7)) = false
  · simp only [if_pos hm]
    exact ⟨trivial, .inl trivial⟩
  · simp only [if_neg hm]
    obtain ⟨a1, a2⟩ := deskZones_ok hz h.c0 (by omega)
    refine ⟨?_, .inr trivial⟩
    split
    · rename_i g
      rw [(a2 g).read hk]
    · rfl

end Go.Proofs.YtallmebpmoaopaaGreatDoor.E
