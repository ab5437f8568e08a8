/- EngG: every operation that reckons or reads does what the abstract machine says; what makes memory; what writes. -/
import Derived.Test.YtdjdjnmccphbjaaEngF
import Derived.Laws.MakeOwn
namespace Go.Proofs.Ytdjdjnmccphbjaa.E
open Go.RowKit

section
variable {P : Program} {B : Nat} {W0 : World} {ρ : Nat → Option Place} {ok : Nat → Prop} {w : World} {nt : Nat} {st : St} {a : Act}

/-- the operands are fit to be read -/
def opOk (op : Op) : Bool := op.operands.toList.all okOpd

theorem opd {op : Op} (h : opOk op = true) {x : Operand} (hx : x ∈ op.operands) : okOpd x = true := List.all_eq_true.1 h x (by simpa using hx)

theorem val_sound (T : TypesOk P) (R : Rl B W0 ρ ok nt st a w) {o : Oper} (hok : opOk o.op = true) {r : AV} (he : valA P st.t st.h o.op = some r) :
    ∃ z, (execOp a.eval o).run P w = .ok (.value z) w ∧ V B ρ ok w r z := by
  have ev : ∀ x, okOpd x = true → V B ρ ok w (evA st.t x) (a.eval x) := fun x hx => ev_sound R hx
  generalize ho : o.op = op at *
  unfold execOp
  simp only [ho]
  unfold valA at he
  split at he
  · -- move
    cases he
    exact ⟨_, rfl, ev _ (opd hok (by simp [Op.operands]))⟩
  · cases he
    exact ⟨_, rfl, ev _ (opd hok (by simp [Op.operands]))⟩
  · -- pick
    rename_i c x y
    have hc := ev c (opd hok (by simp [Op.operands]))
    split at he
    · rename_i b hb
      rw [hb] at hc
      have hcv := V_at hc
      cases he
      refine ⟨if b then a.eval x else a.eval y, by simp [hcv, asBool], ?_⟩
      cases b
      · exact ev y (opd hok (by simp [Op.operands]))
      · exact ev x (opd hok (by simp [Op.operands]))
    · cases he
  · -- load
    rename_i ty x
    obtain ⟨z, h1, h2⟩ := load_sound R.heap (ev x (opd hok (by simp [Op.operands]))) he
    exact ⟨z, by simp [h1], h2⟩
  · -- nilCheck
    rename_i x
    have hx := ev x (opd hok (by simp [Op.operands]))
    dsimp only
    generalize a.eval x = u at *
    split at he
    · rename_i i s r0 o0 hq
      cases he
      rw [hq] at hx
      cases hx with
      | ptr hp => exact ⟨_, rfl, .ptr hp⟩
    · rename_i c hq
      cases he
      rw [hq] at hx
      obtain ⟨b, off, hv, -, -⟩ := cellsAt_rp hx
      subst hv
      exact ⟨_, rfl, hx⟩
    · cases he
  · -- is it nil
    rename_i ty x yt
    have hx := ev x (opd hok (by simp [Op.operands]))
    split at he
    · rename_i el htk
      cases hn : nilTest (evA st.t x) with
      | none => rw [hn] at he; cases he
      | some b =>
        rw [hn] at he
        cases he
        have hu := tk_slice htk
        have key : ∀ (ad : Option Addr) (k c : Nat), (ad.isNone = b) → (Op.equal ty (.slice ad k c) (.slice none 0 0)).run P w = .ok b w := by
          intro ad k c hb
          have : ∀ d, (Op.equalIn (d + 1) ty (.slice ad k c) (.slice none 0 0)).run P w = .ok b w := by
            intro d
            cases ad <;> simp at hb <;> subst hb <;> simp [Op.equalIn, run_underlying hu]
          exact this 9999
        have shape : ∃ ad k c, a.eval x = .slice ad k c ∧ ad.isNone = b := by
          generalize a.eval x = u at hx
          unfold nilTest at hn
          split at hn
          · rename_i hq; rw [hq] at hx; cases hn; cases hx; exact ⟨_, _, _, rfl, rfl⟩
          · rename_i hq; rw [hq] at hx; cases hn; cases hx; exact ⟨_, _, _, rfl, rfl⟩
          · rename_i hq; rw [hq] at hx; cases hn
            cases hx with
            | lst hp =>
              cases hp with
              | lst g1 g2 g3 g4 g5 g6 g7 g8 =>
                rename_i ad cap us
                refine ⟨ad, _, cap, rfl, ?_⟩
                cases ad with
                | none => have := (g4 rfl).1; cases this
                | some ad => rfl
          · rename_i hq; rw [hq] at hx; cases hn
            cases hx with
            | own hp g1 g2 => exact ⟨_, _, _, rfl, rfl⟩
          · cases hn
        obtain ⟨ad, k, c, hs, hb⟩ := shape
        refine ⟨.bool b, ?_, .at rfl⟩
        have hcv : a.eval (.const (.slice none 0 0)) = .slice none 0 0 := rfl
        simp [hs, hcv, eqGuard, binOp, key ad k c hb]
    · cases he
  · -- binOp
    rename_i op ty x y yt _
    obtain ⟨z, h1, h2⟩ := bin_sound (P := P) (xo := x) (yo := y) (ev x (opd hok (by simp [Op.operands]))) (ev y (opd hok (by simp [Op.operands]))) he
    exact ⟨z, by dsimp only; rw [Sem.run_bind, h1]; rfl, h2⟩
  · -- unOp
    rename_i op ty x
    obtain ⟨z, h1, h2⟩ := un_sound (P := P) (ev x (opd hok (by simp [Op.operands]))) he
    exact ⟨z, by simp [h1], h2⟩
  · -- extract
    rename_i x k
    have hx := ev x (opd hok (by simp [Op.operands]))
    split at he
    · rename_i l hq
      rw [hq] at hx
      obtain ⟨z, h1, h2⟩ := extract_sound (P := P) hx he
      exact ⟨z, by simp [h1], h2⟩
    · cases he
  · -- fieldAddr
    rename_i ty x f
    obtain ⟨z, h1, h2⟩ := fieldAddr_sound (P := P) (ev x (opd hok (by simp [Op.operands]))) he
    exact ⟨z, by simp [h1], h2⟩
  · -- indexAddr
    rename_i ty x i
    obtain ⟨z, h1, h2⟩ := indexAddr_sound R.heap (ev x (opd hok (by simp [Op.operands]))) (ev i (opd hok (by simp [Op.operands]))) he
    exact ⟨z, by simp [h1], h2⟩
  · -- index
    rename_i ty x i
    obtain ⟨z, h1, h2⟩ := index_sound (P := P) (ev x (opd hok (by simp [Op.operands]))) (ev i (opd hok (by simp [Op.operands]))) he
    exact ⟨z, by simp [h1], h2⟩
  · -- slice
    rename_i ty x lo hi mx
    split at he
    · rename_i e htk
      cases hti : tiOf P e with
      | none => rw [hti] at he; cases he
      | some ti =>
        rw [hti] at he
        simp only [Option.bind_some] at he
        have one : ∀ (y : Option Operand), (∀ q, y = some q → okOpd q = true) → (∀ x, y.map (evA st.t) = some x → ∃ v, y.map a.eval = some v ∧ V B ρ ok w x v) := by
          intro y hy x hx
          cases y with
          | none => cases hx
          | some q => cases hx; exact ⟨_, rfl, ev q (hy q rfl)⟩
        have two : ∀ (y : Option Operand), y.map (evA st.t) = none → y.map a.eval = none := by
          intro y hy; cases y with
          | none => rfl
          | some q => cases hy
        obtain ⟨z, h1, h2⟩ := slice_sound R.heap htk hti (ev x (opd hok (by simp [Op.operands])))
          (one lo (fun q e => opd hok (by subst e; simp [Op.operands]))) (two lo)
          (one hi (fun q e => opd hok (by subst e; simp [Op.operands]))) (two hi)
          (one mx (fun q e => opd hok (by subst e; simp [Op.operands]))) (two mx) he
        exact ⟨z, by simp [h1], h2⟩
    · cases he
  · -- build
    rename_i ty parts
    obtain ⟨p1, p2⟩ := parts_sound ev parts (fun p hp => opd hok (by
      simp only [Op.operands]
      simp only [List.mem_toArray, List.mem_map]
      exact ⟨p, hp, rfl⟩))
    obtain ⟨z, h1, h2⟩ := build_sound (P := P) T p1 p2 he
    exact ⟨z, by simp [h1], h2⟩
  · -- makeFunc
    rename_i f first caps
    split at he
    · rename_i hf
      cases he
      have hfe : first = #[] := by simpa using hf
      subst hfe
      refine ⟨.func (.func f) #[] (caps.map a.eval), by simp [Instr.makeFunc], ?_⟩
      have : V B ρ ok w (.fn f (caps.toList.map (evA st.t))) (.func (.func f) #[] ((caps.map a.eval).toList).toArray) := .fn (by simp) (fun j c u hc hu => by
        simp only [Array.toList_map, List.getElem?_map] at hc hu
        cases hj : caps.toList[j]? with
        | none => rw [hj] at hc; cases hc
        | some q =>
          rw [hj] at hc hu
          cases hc; cases hu
          exact ev q (opd hok (by have := List.mem_of_getElem? hj; simp [Op.operands]; simpa using this)))
      rw [Array.toArray_toList] at this
      exact this
    · cases he
  · -- len
    rename_i args tys
    split at he
    · rename_i x ty hx hty
      cases hl : lenA (tkOf P ty) (evA st.t x) with
      | none => rw [hl] at he; cases he
      | some m =>
        rw [hl] at he
        cases he
        have ha : args = #[x] := by rw [← Array.toArray_toList (xs := args), hx]
        have ht : tys = #[ty] := by rw [← Array.toArray_toList (xs := tys), hty]
        subst ha; subst ht
        obtain ⟨z, h1, h2⟩ := len_sound (P := P) (ty := o.type) (ev x (opd hok (by simp [Op.operands, Call.operands]))) hl
        exact ⟨z, by simp [resolve, invoke, builtin, h1], h2⟩
    · cases he
  · -- min
    rename_i args tys
    split at he
    · rename_i x y hxy
      have ha : args = #[x, y] := by rw [← Array.toArray_toList (xs := args), hxy]
      subst ha
      have v1 := ev x (opd hok (by simp [Op.operands, Call.operands]))
      have v2 := ev y (opd hok (by simp [Op.operands, Call.operands]))
      unfold minA at he
      split at he
      · rename_i k p k' q e1 e2
        split at he
        · rename_i hk
          subst hk
          cases he
          rw [e1] at v1
          rw [e2] at v2
          have u1 := V_at v1
          have u2 := V_at v2
          refine ⟨.int k (if q < p then q else p), ?_, .at rfl⟩
          simp [resolve, invoke, builtin, Builtin.min_, u1, u2, Builtin.min2]
        · cases he
      · cases he
    · cases he
  · cases he

end
end Go.Proofs.Ytdjdjnmccphbjaa.E
