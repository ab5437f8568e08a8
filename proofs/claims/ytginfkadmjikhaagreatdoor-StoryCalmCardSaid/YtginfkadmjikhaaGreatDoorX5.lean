/- X5: EngW: less may be said of a heap, of arguments; results shown. EngX: regions whose order is open, with a call on one's own memory. (The middle part is EngS's, for a part of a region.) -/
import Derived.Test.YtginfkadmjikhaaGreatDoorX4
namespace Go.Proofs.YtginfkadmjikhaaGreatDoor.E
open Go.RowKit
set_option linter.unusedSimpArgs false
set_option linter.unusedVariables false
theorem call_CSx {P : Program} {id : Nat} {f : FuncId} {args : List AV} {t : Nat → AV} {h : Heap} {n : Nat} {d : Option Tmp} {K : St → Prop} {i j} {Q : Heap → Nat → AV → Prop} (hC : CS P f args h n Q) (hk : ∀ h' n' r, Q h' n' r → K (St.put ⟨t, h', n'⟩ d r)) : callA P false id f args t h n d K i j :=
  call_CS ⟨hC.1, fun B W0 ρ ok w vs H hv => (hC.2 B W0 ρ ok w vs H hv).mono fun e w' hx => by
    obtain ⟨v, h', n', r, ρ', ok', b1, b2, b3⟩ := hx
    exact ⟨v, h', n', r, ρ', ok', b1, hk _ _ _ b2, b3⟩⟩
def HSub (h h' : Heap) : Prop := ∀ (i : Nat) (e' : HE), h' i = some e' → ∃ e, h i = some e ∧ e.ty = e'.ty ∧ e.s = e'.s ∧ e.rows.length = e'.rows.length ∧ ∀ (k : Nat) (r r' : List AV), e.rows[k]? = some r → e'.rows[k]? = some r' → SubL SubF r r'
theorem HSub.refl (h : Heap) : HSub h h := fun i e' he => ⟨e', he, rfl, rfl, rfl, fun k r r' h1 h2 => by
  rw [h1] at h2; cases h2; exact ⟨rfl, fun j c c' h3 h4 => by rw [h3] at h4; cases h4; exact .refl _⟩⟩
theorem SubL.reflF (l : List AV) : SubL SubF l l := ⟨rfl, fun j c c' h3 h4 => by rw [h3] at h4; cases h4; exact .refl _⟩
theorem HSub.at {h : Heap} {i : Nat} {e e' : HE} (he : h i = some e) (h1 : e.ty = e'.ty) (h2 : e.s = e'.s) (h3 : e.rows.length = e'.rows.length) (h4 : ∀ (k : Nat) (r r' : List AV), e.rows[k]? = some r → e'.rows[k]? = some r' → SubL SubF r r') : HSub h (upd h i (some e')) := by
  intro j ej hj
  by_cases hc : j = i
  · subst hc
    rw [upd_same] at hj
    cases hj
    exact ⟨e, he, h1, h2, h3, h4⟩
  · rw [upd_ne _ _ hc] at hj
    exact HSub.refl h j ej hj
section
variable {P : Program} {B : Nat} {W0 : World} {ρ : Nat → Option Place} {ok : Nat → Prop} {w : World} {h h' : Heap} {n : Nat}
theorem HRel.sub (H : HRel B W0 ρ ok h n w) (hs : HSub h h') : HRel B W0 ρ ok h' n w := by
  refine ⟨H.below, H.base, H.okb, H.fresh, fun i e' he' => ?_, fun i j e e' b c s c' s' h1 h2 h3 h4 => ?_⟩
  · obtain ⟨e, he, a1, a2, a3, a4⟩ := hs i e' he'
    rcases H.row i e he with ⟨q1, q2⟩ | ⟨b, cap, cur, p1, p2, p3, p4, p5, p6, p7, p8, p9, p10⟩
    · exact Or.inl ⟨q1, List.eq_nil_of_length_eq_zero (by rw [← a3, q2]; rfl)⟩
    · have hlen : ∀ (k : Nat) (r r' : List AV), e.rows[k]? = some r → e'.rows[k]? = some r' → r.length = r'.length := fun k r r' g1 g2 => (a4 k r r' g1 g2).1
      obtain ⟨f1, f2⟩ := flatten_idx a3 hlen
      refine Or.inr ⟨b, cap, cur, by rw [← a2]; exact p1, p2, p3, by rw [← a1]; exact p4, by rw [← a2]; exact p5, by rw [← a3]; exact p6, p7, by rw [← a2]; exact p8, fun r' hr' => ?_, ?_⟩
      · obtain ⟨k, hk⟩ := List.getElem?_of_mem hr'
        obtain ⟨r, hr⟩ : ∃ r, e.rows[k]? = some r := ⟨_, List.getElem?_eq_getElem (by rw [a3]; exact (List.getElem?_eq_some_iff.1 hk).1)⟩
        rw [← hlen k r r' hr hk, ← a2]
        exact p9 r (List.mem_of_getElem? hr)
      · obtain ⟨c1, c2, c3⟩ := p10
        rw [← a2, ← a3]
        refine ⟨by rw [← f1]; exact c1, c2, fun j c' u hc' hu => ?_⟩
        obtain ⟨k, r, r', i2, c, g1, g2, g3, g4, g5⟩ := f2 j c' hc'
        exact ((a4 k r r' g1 g2).2 i2 c c' g3 g4).v (c3 j c u g5 hu)
  · obtain ⟨x, hx, -⟩ := hs i e h1
    obtain ⟨y, hy, -⟩ := hs j e' h2
    exact H.inj i j x y b c s c' s' hx hy h3 h4
end
theorem CS.sub {P : Program} {f : FuncId} {args : List AV} {h : Heap} {n : Nat} {Q Q' : Heap → Nat → AV → Prop} (hc : CS P f args h n Q) (hq : ∀ h' n' r, Q h' n' r → ∃ h'', HSub h' h'' ∧ Q' h'' n' r) : CS P f args h n Q' :=
  ⟨hc.1, fun B W0 ρ ok w vs H hv => (hc.2 B W0 ρ ok w vs H hv).mono fun e w' hx => by
    obtain ⟨v, h', n', r, ρ', ok', b1, b2, b3, b4, b5⟩ := hx
    obtain ⟨h'', g1, g2⟩ := hq _ _ _ b2
    exact ⟨v, h'', n', r, ρ', ok', b1, g2, b3, b4.sub g1, b5⟩⟩
theorem CS.pre {P : Program} {f : FuncId} {args : List AV} {h h0 : Heap} {n : Nat} {Q : Heap → Nat → AV → Prop} (hc : CS P f args h n Q) (hs : HSub h0 h) : CS P f args h0 n Q :=
  ⟨hc.1, fun B W0 ρ ok w vs H hv => hc.2 B W0 ρ ok w vs (H.sub hs) hv⟩
theorem CS.args {P : Program} {f : FuncId} {args args2 : List AV} {h : Heap} {n : Nat} {Q : Heap → Nat → AV → Prop} (hc : CS P f args h n Q) (hs : SubL SubA args2 args) : CS P f args2 h n Q :=
  ⟨hc.1, fun B W0 ρ ok w vs H hv => hc.2 B W0 ρ ok w vs H ⟨hs.1.symm.trans hv.1, fun j c u hcj hu => by
    obtain ⟨x, hx⟩ : ∃ x, args2[j]? = some x := ⟨_, List.getElem?_eq_getElem (by rw [hs.1]; exact (List.getElem?_eq_some_iff.1 hcj).1)⟩
    exact (hs.2 j x c hx hcj).v (hv.2 j x u hx hu)⟩⟩
theorem C.show {P : Program} {f : FuncId} {args : List AV} {r r1 r2 : AV} {news : List HE} (hc : C P f args r news) (ho : outV (heapOf news) [] r = some r1) (hs : Sub r1 r2) (hr : resV r2 = true) : C P f args r2 [] := by
  refine ⟨hc.1, hr, rfl, fun F w vs hF hG hv => (hc.2.2.2 F w vs hF hG hv).mono ?_⟩
  rintro e w' ⟨v, ρ, ok, rfl, H, hvr, x⟩
  have hvo := out_sound H ho hvr
  refine ⟨v, fun j => (([] : List Nat)[j]?).bind ρ, Shown ρ ok (heapOf news) [], rfl, ⟨H.below, H.base, fun b hb => shown_lt H hb, fun i _ => rfl, fun i e he => ?_, fun i j e e' b c s c' s' h1 h2 h3 h4 => ?_⟩, hs.v hvo, fun b hb => ?_⟩
  · simp [heapOf] at he
  · simp [heapOf] at h1
  · rcases hb with hb | ⟨i, e, c, s, g1, g2, g3⟩
    · exact x b hb
    · rcases H.row i e g1 with ⟨q, _⟩ | ⟨b', cap', cur, p1, p2, p3, _⟩
      · rw [g3] at q; cases q
      · rw [g3] at p1
        simp only [Option.some.injEq, Prod.mk.injEq] at p1
        obtain ⟨rfl, -, -⟩ := p1
        exact Or.inr p2
end Go.Proofs.YtginfkadmjikhaaGreatDoor.E
namespace Go.Proofs.YtginfkadmjikhaaGreatDoor.E
open Go.RowKit
set_option linter.unusedSimpArgs false
set_option linter.unusedVariables false
section
variable {P : Program} {B : Nat} {W0 : World} {nt : Nat}
def barB (ops : Array Oper) (p x0 : Nat) : Bool :=
  let M := closA ops
  (List.range ops.size).all fun z => decide (z < x0) || (List.range x0).all fun y => decide (y < p) || (M.getD z []).contains y
theorem barB_spec {ops : Array Oper} {p x0 z y : Nat} (h : barB ops p x0 = true) (h1 : x0 ≤ z) (h2 : z < ops.size) (h3 : p ≤ y) (h4 : y < x0) : y ∈ (closA ops).getD z [] := by
  have h5 := List.all_eq_true.1 h z (by simpa using h2)
  simp only [Bool.or_eq_true, decide_eq_true_eq] at h5
  rcases h5 with h5 | h5
  · omega
  · have h6 := List.all_eq_true.1 h5 y (by simpa using h4)
    simp only [Bool.or_eq_true, decide_eq_true_eq, List.contains_iff_mem] at h6
    rcases h6 with h6 | h6
    · omega
    · exact h6
theorem draw_anyP (T : TypesOk P) {ρ0 : Nat → Option Place} {ok0 : Nat → Prop} {w0 : World} {n0 : Nat} {ops : Array Oper} {base x0 p f2 : Nat} (hx0 : x0 ≤ ops.size) (hbar : barB ops p x0 = true) (hb0 : n0 ≤ base) {ks : List Nat} (hd : drawOkG ops ks = true) (hok : (ops.toList.all (operOk nt)) = true) {Q : St → Prop} (hQk : ∀ st, Q st → ∀ k, k ∈ ks → gateF k st) {Qc : Exit → Act → World → Prop}
    (hQ : ∀ (listed : Array Bool) st a w ρ ok, listed.size = ops.size → (∀ y, y < x0 → listed.getD y true = true) → (∀ z, x0 ≤ z → z < ops.size → listed.getD z true = false) → (∀ k o, ops[k]? = some o → listed.getD k true = true → ∀ e, e ∈ o.after → Region.binds .any e = true → listed.getD e.on false = true) → Q st → Rl B W0 ρ ok nt st a w → Ext (fun i => n0 ≤ i) ρ0 ρ ok0 ok w0 w → base + 4 * ops.size ≤ st.n → (∀ k, x0 ≤ k → k < ops.size → ∀ j, j < 4 → ρ (base + 4 * k + j) = none) → wpAny P .any ops Qc f2 listed a w) :
    ∀ (fuel : Nat) (listed : Array Bool) (st : St) (a : Act) (w : World) (ρ : Nat → Option Place) (ok : Nat → Prop), listed.size = ops.size → (left x0 listed).length = fuel → (∀ y, y < p → listed.getD y true = true) → (∀ z, x0 ≤ z → z < ops.size → listed.getD z true = false) →
      (∀ k o, ops[k]? = some o → listed.getD k true = true → ∀ e, e ∈ o.after → Region.binds .any e = true → listed.getD e.on false = true) →
      Rl B W0 ρ ok nt st a w → Ext (fun i => n0 ≤ i) ρ0 ρ ok0 ok w0 w → base + 4 * ops.size ≤ st.n → (∀ k, x0 ≤ k → k < ops.size → ∀ j, j < 4 → ρ (base + 4 * k + j) = none) → (∀ k, k ∈ left x0 listed → ∀ j, j < 4 → ρ (base + 4 * k + j) = none) → runI P ops base (left x0 listed) Q st → wpAny P .any ops Qc (f2 + fuel) listed a w := by
  intro fuel
  have hready : ∀ (listed : Array Bool), listed.size = ops.size → Region.ready .any ops listed = [] → left x0 listed = [] := by
    intro listed hsz hr
    cases hl : left x0 listed with
    | nil => rfl
    | cons x rest =>
      exfalso
      have hx : x ∈ left x0 listed := by rw [hl]; simp
      simp only [left, List.mem_filter, List.mem_range, Bool.not_eq_true'] at hx
      obtain ⟨ox, hox⟩ : ∃ o, ops[x]? = some o := ⟨ops[x]'(by omega), by simp⟩
      have hmem : x ∈ Region.ready .any ops listed := by
        rw [mem_ready]
        refine ⟨hx.2, ox, hox, fun e he hb => ?_⟩
        have h0 := List.all_eq_true.1 hd x (by simp; omega)
        simp only [hox, Bool.and_eq_true] at h0
        have hon : e.on < x := by
          have := List.all_eq_true.1 h0.1.1 e (by simpa using he)
          simp only [hb, Bool.not_true, Bool.false_or, decide_eq_true_eq] at this
          exact this
        have hnot : listed.getD e.on true = true := by
          cases hq : listed.getD e.on true with
          | true => rfl
          | false =>
            exfalso
            obtain ⟨pre, post, h1, -, h3⟩ := left_split hx.1 hx.2
            have hpre : pre = [] := by
              cases pre with
              | nil => rfl
              | cons z zs =>
                rw [h1] at hl
                simp at hl
                have := h3 z (by simp)
                omega
            subst hpre
            have hin : e.on ∈ left x0 listed := by
              simp only [left, List.mem_filter, List.mem_range, Bool.not_eq_true']
              exact ⟨by omega, hq⟩
            have hs : (left x0 listed).Pairwise (· < ·) := (List.pairwise_lt_range).filter _
            rw [hl] at hin hs
            simp only [List.mem_cons] at hin
            rcases hin with hin | hin
            · omega
            · have := (List.pairwise_cons.1 hs).1 _ hin
              omega
        have : e.on < listed.size := by omega
        simp [this] at hnot ⊢
        exact hnot
      rw [hr] at hmem; cases hmem
  induction fuel with
  | zero =>
    intro listed st a w ρ ok hsz hlen hlp hun hcl R x hn hfree2 hfree hr
    have hl0 : left x0 listed = [] := List.eq_nil_of_length_eq_zero (by omega)
    rw [hl0] at hr
    refine hQ listed st a w ρ ok hsz (fun y hy => ?_) hun hcl hr R x hn hfree2
    cases hq : listed.getD y true with
    | true => rfl
    | false =>
      exfalso
      have : y ∈ left x0 listed := by
        simp only [left, List.mem_filter, List.mem_range, Bool.not_eq_true']
        exact ⟨hy, hq⟩
      rw [hl0] at this; cases this
  | succ fuel ih =>
    intro listed st a w ρ ok hsz hlen hlp hun hcl R x hn hfree2 hfree hr
    refine ⟨fun hre => ?_, fun i hi => ?_⟩
    · have hl0 := hready listed hsz hre
      rw [hl0] at hlen
      simp at hlen
    · obtain ⟨hli, oi, hoi, hre⟩ := mem_ready.1 hi
      have hlt : i < ops.size := (Array.getElem?_eq_some_iff.1 hoi).1
      have hix : i < x0 := by
        rcases Nat.lt_or_ge i x0 with g | g
        · exact g
        · exfalso
          obtain ⟨y, hy⟩ : ∃ y, y ∈ left x0 listed := by
            cases hl : left x0 listed with
            | nil => rw [hl] at hlen; simp at hlen
            | cons y ys => exact ⟨y, by simp⟩
          simp only [left, List.mem_filter, List.mem_range, Bool.not_eq_true'] at hy
          have hpy : p ≤ y := by
            rcases Nat.lt_or_ge y p with g2 | g2
            · have := hlp y g2
              rw [hy.2] at this; cases this
            · exact g2
          have h1 := closed_memG hd hcl i oi hoi hre y (barB_spec hbar g hlt hpy hy.1)
          have hys : y < listed.size := by omega
          have h2 := hy.2
          simp [hys] at h1 h2
          rw [h1] at h2; cases h2
      obtain ⟨pre, post, hl1, hl2, hl3⟩ := left_split hix hli
      have hopi := List.all_eq_true.1 hok oi (by rw [← Array.getElem?_toList] at hoi; exact List.mem_of_getElem? hoi)
      simp only [operOk, Bool.and_eq_true] at hopi
      have h0 := List.all_eq_true.1 hd i (by simpa using hlt)
      simp only [hoi, Bool.and_eq_true] at h0
      have hpre : ∀ y, y ∈ pre → ∃ oy, Free ops y i oy oi ∧ pairOkG ops (closA ops) ks y i oy oi = true := by
        intro y hy
        obtain ⟨hyi, hyl⟩ := hl3 y hy
        have h1 := List.all_eq_true.1 h0.2 y (by simpa using hyi)
        simp only [Bool.or_eq_true] at h1
        rcases h1 with h1 | h1
        · exfalso
          have := closed_memG hd hcl i oi hoi hre y (by simpa using h1)
          have hys : y < listed.size := by omega
          simp [hys] at this hyl
          rw [this] at hyl; cases hyl
        · obtain ⟨oy, hoy⟩ : ∃ oy, ops[y]? = some oy := ⟨ops[y]'(by omega), by simp⟩
          simp only [hoy, Bool.and_eq_true] at h1
          exact ⟨oy, ⟨hoy, by omega, h1.1⟩, h1.2⟩
      have hmem : ∀ k, k ∈ pre ++ post → k ∈ left x0 listed ∧ k ≠ i := by
        intro k hk
        have h1 : k ∈ left x0 (listed.setIfInBounds i true) := by rw [hl2]; exact hk
        have h2 : k ∈ left x0 listed := by
          rw [hl1]
          rcases List.mem_append.1 hk with h | h
          · exact List.mem_append_left _ h
          · exact List.mem_append_right _ (List.mem_cons_of_mem _ h)
        refine ⟨h2, fun e => ?_⟩
        subst e
        simp only [left, List.mem_filter, List.mem_range, Bool.not_eq_true'] at h1
        have hks : k < listed.size := by omega
        simp [hks] at h1
      have himem : i ∈ left x0 listed := by rw [hl1]; simp
      have hcl' : ∀ k o, ops[k]? = some o → (listed.setIfInBounds i true).getD k true = true → ∀ e, e ∈ o.after → Region.binds .any e = true → (listed.setIfInBounds i true).getD e.on false = true := by
        intro k o hk hkl e he hb
        refine getD_set_true ?_
        by_cases hki : k = i
        · subst hki
          rw [hoi] at hk; cases hk
          exact hre e he hb
        · rw [getD_set_ne true (Ne.symm hki)] at hkl
          exact hcl k o hk hkl e he hb
      have hlen' : (left x0 (listed.setIfInBounds i true)).length = fuel := by
        rw [hl2]; rw [hl1] at hlen; simp at hlen ⊢; omega
      have hnone : ∀ j, j < 4 → st.h (base + 4 * i + j) = none := by
        intro j hj
        have hp := hfree i himem j hj
        cases hq : st.h (base + 4 * i + j) with
        | none => rfl
        | some e =>
          exfalso
          rcases R.heap.row _ e hq with ⟨q, _⟩ | ⟨b, cap, cur, q, _⟩ <;> (rw [hp] at q; cases q)
      have hlp' : ∀ y, y < p → (listed.setIfInBounds i true).getD y true = true := by
        intro y hy
        by_cases hiy : i = y
        · subst hiy
          have := hlp i hy
          rw [hli] at this; cases this
        · rw [getD_set_ne true hiy]; exact hlp y hy
      have hun' : ∀ z, x0 ≤ z → z < ops.size → (listed.setIfInBounds i true).getD z true = false := by
        intro z hz hz2
        rw [getD_set_ne true (by omega)]
        exact hun z hz hz2
      have rest : ∀ st' a' w' ρ' ok', runI P ops base (pre ++ post) Q st' → Rl B W0 ρ' ok' nt st' a' w' → Ext (Names (base + 4 * i) st.n) ρ ρ' ok ok' w w' → st.n ≤ st'.n → wpAny P .any ops Qc (f2 + fuel) (listed.setIfInBounds i true) a' w' := by
        intro st' a' w' ρ' ok' hk R' x' hn'
        refine ih _ st' a' w' ρ' ok' (by simpa using hsz) hlen' hlp' hun' hcl' R' (x.trans (x'.weaken fun z hz => ?_)) (by omega) (fun k hk1 hk2 j hj => ?_) (fun k hk' j hj => ?_) (by rw [hl2]; exact hk)
        · rcases hz with hz | hz <;> omega
        · rw [x'.pl _ (by rintro (hz | hz) <;> omega)]
          exact hfree2 k hk1 hk2 j hj
        · rw [hl2] at hk'
          obtain ⟨g1, g2⟩ := hmem k hk'
          have hkl : k < ops.size := by
            simp only [left, List.mem_filter, List.mem_range] at g1; omega
          rw [x'.pl _ (by rintro (hz | hz) <;> omega)]
          exact hfree k g1 j hj
      unfold wpOp
      simp only [hoi]
      rw [want_sound R ops oi]
      rw [hl1] at hr
      by_cases hw : wantA ops oi st.t = true
      · rw [if_pos hw]
        refine Or.inl ?_
        have go : ∀ {h' : Heap} {r : AV}, Ef P (base + 4 * i) oi.op st.t st.h h' r → runI P ops base (pre ++ post) Q (St.put ⟨st.t, h', st.n⟩ oi.dst r) → oi.wp P a w (wpAny P .any ops Qc (f2 + fuel) (listed.setIfInBounds i true)) Qc := by
          intro h' r he hk
          exact step_sound (draw := true) T R hopi.1 hopi.2 (by omega) (hfree i himem) (ef_step (K := runI P ops base (pre ++ post) Q) he hk) rest
        have hsort : sort oi.op = 0 ∨ sort oi.op = 1 ∨ sort oi.op = 2 := by
          unfold sort; split <;> simp
        rcases hsort with hs | hs | hs
        · obtain ⟨rx, t', g1, g2, -, g4⟩ := front0 hoi pre st (fun y hy => (hpre y hy).imp fun oy h => h.1) (fun _ => hs) hr
          obtain ⟨h', g2⟩ := g2 hw
          refine go (h' := st.h) (r := rx) ?_ g4
          unfold Ef
          rw [if_neg (by rw [hs]; simp)]
          exact ⟨[], ((g2.free (h2 := st.h) hs).1).congr (fun o ho => (g1.ev ho).symm), by simp, rfl⟩
        · -- what is left ahead of it, in the order of the text
          have hpw : (pre ++ i :: post).Pairwise (· < ·) := by
            rw [← hl1]; exact (List.pairwise_lt_range).filter _
          have hncl : ∀ k, k ∈ pre ++ i :: post → ((closA ops).getD i []).contains k = false := by
            intro k hk
            cases hc : ((closA ops).getD i []).contains k with
            | false => rfl
            | true =>
              exfalso
              have h1 := closed_memG hd hcl i oi hoi hre k (by simpa using hc)
              rw [← hl1] at hk
              simp only [left, List.mem_filter, List.mem_range, Bool.not_eq_true'] at hk
              have hks : k < listed.size := by omega
              have h2 := hk.2
              simp [hks] at h1 h2
              rw [h1] at h2; cases h2
          have hnot : ∀ z, ρ z ≠ none → ∀ y, y ∈ pre → ¬ (base + 4 * y ≤ z ∧ z < base + 4 * y + 4) := by
            intro z hz y hy hc
            have hyl : y ∈ left x0 listed := by rw [hl1]; exact List.mem_append_left _ hy
            have := hfree y hyl (z - (base + 4 * y)) (by omega)
            rw [show base + 4 * y + (z - (base + 4 * y)) = z by omega] at this
            exact hz this
          by_cases hall : ∀ y, y ∈ pre → ∀ oy, ops[y]? = some oy → sort oy.op ≠ 2
          · obtain ⟨rx, nx, t', h', g1, g2, g3, g4, g5⟩ := front1 hoi hs pre st (fun y hy => by
              obtain ⟨oy, f, hp⟩ := hpre y hy
              exact ⟨oy, f, hall y hy oy f.gy⟩) hw hnone hr
            refine go (h' := updL st.h (base + 4 * i) nx) (r := rx) ?_ g5
            unfold Ef
            rw [if_neg (by rw [hs]; simp)]
            refine ⟨nx, Rd.less R (fun z hz => g2 z fun y hy hc => hnot z hz y hy hc) hopi.1 (by rw [hs]; simp) (g3.congr (fun o ho => (g1.ev ho).symm)), g4, rfl⟩
          · obtain ⟨y0, hy0⟩ := Classical.not_forall.1 hall
            obtain ⟨hy0m, hy0⟩ := Classical.not_imp.1 hy0
            obtain ⟨oy0, hy0⟩ := Classical.not_forall.1 hy0
            obtain ⟨goy0, hy0⟩ := Classical.not_imp.1 hy0
            have hs0 : sort oy0.op = 2 := Classical.not_not.1 hy0
            have T1 : ∀ z, touch oi.op st.t z → ∀ y, y ∈ pre → ¬ (base + 4 * y ≤ z ∧ z < base + 4 * y + 4) := by
              intro z hz
              cases hc : isCall oi.op with
              | false => exact hnot z (touch_there R hopi.1 hc hz)
              | true =>
                exfalso
                obtain ⟨oy, f, hp⟩ := hpre y0 hy0m
                have e : oy = oy0 := by have := f.gy; rw [goy0] at this; exact (Option.some.inj this).symm
                subst e
                unfold pairOkG at hp
                rw [hs0, hs] at hp
                simp only [pairOk, Bool.or_eq_true, Bool.and_eq_true, beq_iff_eq] at hp
                have hp : marksOk ks oy.op oi.op = true ∧ keptOk ops (closA ops) y0 i oy oi = true := by
                  rcases hp with ((h | h) | h) | h
                  · cases h
                  · cases h
                  · cases h.1
                  · exact h
                obtain ⟨st', q1, q2⟩ := runI_end _ st hr
                refine (marks_gate (hQk st' q1) hp.1).2.2 hc z (touch_congr (fun o ho => ?_) hz)
                cases o with
                | tmp k =>
                  refine (q2 k fun k' hk' o' ho' e => ?_).symm
                  rcases List.mem_append.1 hk' with hm | hm
                  · obtain ⟨oz, fz, -⟩ := hpre k' hm
                    have e2 : oz = o' := by have := fz.gy; rw [ho'] at this; exact (Option.some.inj this).symm
                    subst e2
                    refine fz.d1 k e ?_
                    unfold Oper.looksAt
                    exact List.mem_append_left _ (List.mem_filterMap.2 ⟨.tmp k, by simpa using ho, rfl⟩)
                  · have hlt' : k' < ops.size := (Array.getElem?_eq_some_iff.1 ho').1
                    have h3 := List.all_eq_true.1 hp.2 k' (by simpa using hlt')
                    simp only [ho', e, Bool.or_eq_true, Bool.and_eq_true, Bool.not_eq_true', decide_eq_true_eq] at h3
                    have hy0i := (hl3 y0 hy0m).1
                    have hik : i ≤ k' := by
                      rcases List.mem_cons.1 hm with rfl | hm'
                      · exact Nat.le_refl _
                      · have := (List.pairwise_cons.1 (List.pairwise_append.1 hpw).2.1).1 k' hm'
                        omega
                    rcases h3 with (h3 | h3) | h3
                    · omega
                    · rw [hncl k' hk'] at h3; cases h3
                    · exact dst_kept h3.2 ho
                | _ => rfl
            obtain ⟨rx, t', h', g1, g2, g3⟩ := frontX hoi pre st (preOk_of hoi (by rw [hs]; simp) hQk pre hpw hncl hpre) hw hnone T1 hr
            exact go (h' := h') (r := rx) (g2.congr (fun o ho => (g1.ev ho).symm)) g3
        · have hpw : (pre ++ i :: post).Pairwise (· < ·) := by
            rw [← hl1]; exact (List.pairwise_lt_range).filter _
          have hncl : ∀ k, k ∈ pre ++ i :: post → ((closA ops).getD i []).contains k = false := by
            intro k hk
            cases hc : ((closA ops).getD i []).contains k with
            | false => rfl
            | true =>
              exfalso
              have h1 := closed_memG hd hcl i oi hoi hre k (by simpa using hc)
              rw [← hl1] at hk
              simp only [left, List.mem_filter, List.mem_range, Bool.not_eq_true'] at hk
              have hks : k < listed.size := by omega
              have h2 := hk.2
              simp [hks] at h1 h2
              rw [h1] at h2; cases h2
          have hcall : isCall oi.op = false := by
            cases hc : isCall oi.op with
            | false => rfl
            | true =>
              exfalso
              cases hop : oi.op <;> rw [hop] at hc hs <;> simp [isCall] at hc
              rename_i c
              obtain ⟨callee, args, tys⟩ := c
              cases callee <;> simp [sort] at hs <;> simp at hc
          obtain ⟨rx, t', h', g1, g2, g3⟩ := frontX hoi pre st (preOk_of hoi (by rw [hs]; simp) hQk pre hpw hncl hpre) hw hnone (fun z hz y hy hc => by
            have hyl : y ∈ left x0 listed := by rw [hl1]; exact List.mem_append_left _ hy
            have := hfree y hyl (z - (base + 4 * y)) (by omega)
            rw [show base + 4 * y + (z - (base + 4 * y)) = z by omega] at this
            exact touch_there R hopi.1 hcall hz this) hr
          exact go (h' := h') (r := rx) (g2.congr (fun o ho => (g1.ev ho).symm)) g3
      · rw [if_neg hw]
        obtain ⟨rx, t', -, -, g3, g4⟩ := front0 hoi pre st (fun y hy => (hpre y hy).imp fun oy h => h.1) (fun h => absurd h hw) hr
        have := g3 hw
        subst this
        exact rest _ _ _ _ _ g4 (R.put (Ext.refl (Names (base + 4 * i) st.n) ρ ok w) R.heap (dst_lt hopi.2) .und) (Ext.refl _ _ _ _) (by cases oi.dst <;> exact Nat.le_refl _)
def runB (P : Program) (x : Nat) (ops : Array Oper) (base : Nat) : List Oper → Nat → (St → Prop) → St → Prop
  | [], _, Q, st => Q st
  | o :: os, k, Q, st =>
    brA (wantA ops o st.t) (stepA P (!decide (k = x)) (base + 4 * k) o.dst o.op (runB P x ops base os (k + 1) Q) ⟨⟩ ⟨⟩ st) (runB P x ops base os (k + 1) Q (st.put o.dst .und)) ⟨⟩ ⟨⟩
def barA (P : Program) (x : Nat) (ops : Array Oper) (base : Nat) (os : List Oper) (k : Nat) (Q : St → Prop) (_ : Tg ops) (_ : Tg os) (_ : Tg Q) (st : St) : Prop := runB P x ops base os k Q st
theorem barA_nil {x : Nat} {ops : Array Oper} {base : Nat} {k : Nat} {Q : St → Prop} {st : St} : barA P x ops base [] k Q ⟨⟩ ⟨⟩ ⟨⟩ st = Q st := rfl
theorem barA_cons {x : Nat} {ops : Array Oper} {base : Nat} {os : List Oper} {k : Nat} {Q : St → Prop} {st : St} {d : Option Tmp} {op : Op} {ty : TypeId} {pos : String} {after : Array Edge} :
    barA P x ops base (⟨d, op, ty, pos, after, none⟩ :: os) k Q ⟨⟩ ⟨⟩ ⟨⟩ st = stepA P (!decide (k = x)) (base + 4 * k) d op (barA P x ops base os (k + 1) Q ⟨⟩ ⟨⟩ ⟨⟩) ⟨⟩ ⟨⟩ st := rfl
theorem runB_true {x : Nat} {ops : Array Oper} {base : Nat} {Q : St → Prop} : ∀ (os : List Oper) (k : Nat) (st : St), ops.toList.drop k = os → x < k → runB P x ops base os k Q st → runI P ops base (List.range' k os.length) Q st
  | [], k, st, _, _, h => h
  | o :: os, k, st, hd, hk, h => by
    have ho : ops[k]? = some o := by
      have : (ops.toList.drop k)[0]? = some o := by rw [hd]; rfl
      rw [List.getElem?_drop] at this
      simpa using this
    have hd' : ops.toList.drop (k + 1) = os := by
      rw [← List.drop_drop, hd]; rfl
    have e : (!decide (k = x)) = true := by simp; omega
    simp only [List.length_cons, List.range'_succ, runI, ho]
    simp only [runB] at h
    unfold brA at h
    rw [e] at h
    split
    · rename_i hw
      rw [if_pos hw] at h
      obtain ⟨h', r, he, hk'⟩ := step_ef h
      exact ef_step he (runB_true os (k + 1) _ hd' (by omega) hk')
    · rename_i hw
      rw [if_neg hw] at h
      exact runB_true os (k + 1) _ hd' (by omega) h
theorem runB_pre {x : Nat} {ops : Array Oper} {base : Nat} {Q : St → Prop} : ∀ (os : List Oper) (k : Nat) (st : St), ops.toList.drop k = os → k ≤ x → x < k + os.length → runB P x ops base os k Q st →
    runI P ops base (List.range' k (x - k)) (fun s => runB P x ops base (ops.toList.drop x) x Q s) st
  | [], k, st, _, h1, h2, h => by simp at h2; omega
  | o :: os, k, st, hd, h1, h2, h => by
    by_cases hkx : k = x
    · subst hkx
      rw [Nat.sub_self]
      show runB P k ops base (ops.toList.drop k) k Q st
      rw [hd]
      exact h
    · have ho : ops[k]? = some o := by
        have : (ops.toList.drop k)[0]? = some o := by rw [hd]; rfl
        rw [List.getElem?_drop] at this
        simpa using this
      have hd' : ops.toList.drop (k + 1) = os := by
        rw [← List.drop_drop, hd]; rfl
      have e : (!decide (k = x)) = true := by simp; omega
      have e2 : x - k = (x - (k + 1)) + 1 := by omega
      simp only [List.length_cons] at h2
      rw [e2, List.range'_succ]
      simp only [runI, ho]
      simp only [runB] at h
      unfold brA at h
      rw [e] at h
      split
      · rename_i hw
        rw [if_pos hw] at h
        obtain ⟨h', r, he, hk'⟩ := step_ef h
        exact ef_step he (runB_pre os (k + 1) _ hd' (by omega) (by omega) hk')
      · rename_i hw
        rw [if_neg hw] at h
        exact runB_pre os (k + 1) _ hd' (by omega) (by omega) h
def headB (ops : Array Oper) : Nat → Bool
  | 0 => true
  | 1 => match (ops[0]? : Option Oper) with
    | some ⟨some _, .move (.tmp _), _, _, after, none⟩ => after.isEmpty && Region.free .any ops (Array.replicate ops.size false) 0
    | _ => false
  | _ => false
def barOk (nt p x : Nat) (ops : Array Oper) : Bool :=
  ops.toList.all (operOk nt) && drawOkG ops [] && decide (x < ops.size) && barB ops p x && ((List.range ops.size).all fun z => decide (z ≤ x) || (((closA ops).getD z []).contains x && (List.range p).all fun y => ((closA ops).getD z []).contains y)) && headB ops p && Region.noSelect ops
theorem left_first {n x : Nat} {listed : Array Bool} (h1 : ∀ y, y < x → listed.getD y true = true) (h2 : ∀ z, x ≤ z → z < n → listed.getD z true = false) (hx : x ≤ n) : left n listed = List.range' x (n - x) := by
  have e : List.range n = List.range' 0 x ++ List.range' x (n - x) := by
    rw [List.range_eq_range']
    conv => lhs; rw [show n = x + (n - x) by omega]
    rw [← List.range'_append_1]
    simp
  unfold left
  rw [e, List.filter_append, List.filter_eq_nil_iff.2 (fun y hy => ?_), List.filter_eq_self.2 (fun z hz => ?_), List.nil_append]
  · have := List.mem_range'_1.1 hz
    rw [h2 z this.1 (by omega)]; rfl
  · have := List.mem_range'_1.1 hy
    rw [h1 y (by omega)]; simp
theorem bar_any (T : TypesOk P) {ρ0 : Nat → Option Place} {ok0 : Nat → Prop} {w0 : World} {n0 : Nat} {ops : Array Oper} {base p x : Nat} (hp : p ≤ x) (hb0 : n0 ≤ base) (hbo : barOk nt p x ops = true) {Q : St → Prop} {Qc : Exit → Act → World → Prop}
    (hQ : ∀ st a w, Q st → Since B W0 nt ρ0 ok0 w0 n0 st a w → Qc .normal a w) (listed : Array Bool) (st : St) (a : Act) (w : World) (ρ : Nat → Option Place) (ok : Nat → Prop) (hsz : listed.size = ops.size) (hlp : ∀ y, y < p → listed.getD y true = true) (hun : ∀ z, p ≤ z → z < ops.size → listed.getD z true = false)
    (hcl : ∀ k o, ops[k]? = some o → listed.getD k true = true → ∀ e, e ∈ o.after → Region.binds .any e = true → listed.getD e.on false = true)
    (R : Rl B W0 ρ ok nt st a w) (X : Ext (fun i => n0 ≤ i) ρ0 ρ ok0 ok w0 w) (hn : base + 4 * ops.size ≤ st.n) (hfree : ∀ k, p ≤ k → k < ops.size → ∀ j, j < 4 → ρ (base + 4 * k + j) = none) (hr : runB P x ops base (ops.toList.drop p) p Q st) : wpAny P .any ops Qc (ops.size - p) listed a w := by
  unfold barOk at hbo
  simp only [Bool.and_eq_true, decide_eq_true_eq] at hbo
  obtain ⟨⟨⟨⟨⟨⟨hok, hd⟩, hxs⟩, hbar⟩, hbe⟩, -⟩, -⟩ := hbo
  have hl := left_first (n := x) hlp (fun z h1 h2 => hun z h1 (by omega)) hp
  have hr1 := runB_pre (P := P) (x := x) (ops := ops) (base := base) (Q := Q) (ops.toList.drop p) p st rfl hp (by rw [List.length_drop, Array.length_toList]; omega) hr
  rw [← hl] at hr1
  have e : ops.size - p = (ops.size - x) + (left x listed).length := by rw [hl, List.length_range']; omega
  rw [e]
  refine draw_anyP T (p := p) (f2 := ops.size - x) (Nat.le_of_lt hxs) hbar hb0 hd hok (ks := []) (fun _ _ k hk => by cases hk) (fun listed st a w ρ ok hsz hlx hun hcl hq R X hn hfr => ?_) _ listed st a w ρ ok hsz rfl hlp (fun z h1 h2 => hun z (by omega) h2) hcl R X hn (fun k h1 h2 => hfree k (by omega) h2) (fun k hk => ?_) hr1
  rotate_left
  · rw [hl] at hk
    have := List.mem_range'_1.1 hk
    exact hfree k (by omega) (by omega)
  obtain ⟨o, ho⟩ : ∃ o, ops[x]? = some o := ⟨ops[x], by simp⟩
  have hdx : ops.toList.drop x = o :: ops.toList.drop (x + 1) := by
    obtain ⟨h1, h2⟩ := Array.getElem?_eq_some_iff.1 ho
    rw [List.drop_eq_getElem_cons (by simpa using h1)]
    simp [h2]
  rw [hdx] at hq
  have hopi := List.all_eq_true.1 hok o (by rw [← Array.getElem?_toList] at ho; exact List.mem_of_getElem? ho)
  simp only [operOk, Bool.and_eq_true] at hopi
  obtain ⟨f, hf⟩ : ∃ f, ops.size - x = f + 1 := ⟨ops.size - x - 1, by omega⟩
  rw [hf]
  have hlx' : ∀ y, y < x + 1 → (listed.setIfInBounds x true).getD y true = true := by
    intro y hy
    by_cases hxy : x = y
    · subst hxy
      have : x < listed.size := by omega
      simp [this]
    · rw [getD_set_ne true hxy]; exact hlx y (by omega)
  have hun' : ∀ z, x + 1 ≤ z → z < ops.size → (listed.setIfInBounds x true).getD z true = false := fun z h1 h2 => by rw [getD_set_ne true (by omega)]; exact hun z (by omega) h2
  have hafter : ∀ e, e ∈ o.after → Region.binds .any e = true → listed.getD e.on false = true := by
    intro e he hb
    have h0 := List.all_eq_true.1 hd x (by simpa using hxs)
    simp only [ho, Bool.and_eq_true] at h0
    have hon : e.on < x := by
      have := List.all_eq_true.1 h0.1.1 e (by simpa using he)
      simp only [hb, Bool.not_true, Bool.false_or, decide_eq_true_eq] at this
      exact this
    have := hlx e.on hon
    have hes : e.on < listed.size := by omega
    simp [hes] at this ⊢
    exact this
  have hcl' : ∀ k o, ops[k]? = some o → (listed.setIfInBounds x true).getD k true = true → ∀ e, e ∈ o.after → Region.binds .any e = true → (listed.setIfInBounds x true).getD e.on false = true := by
    intro k o2 hk hkl ed hed hb
    refine getD_set_true ?_
    by_cases hki : k = x
    · rw [hki, ho] at hk; cases hk
      exact hafter ed hed hb
    · rw [getD_set_ne true (Ne.symm hki)] at hkl
      exact hcl k o2 hk hkl ed hed hb
  have hmemx : x ∈ Region.ready .any ops listed := by
    rw [mem_ready]
    exact ⟨hun x (Nat.le_refl _) hxs, o, ho, hafter⟩
  have rest : ∀ st' a' w' ρ' ok', runB P x ops base (ops.toList.drop (x + 1)) (x + 1) Q st' → Rl B W0 ρ' ok' nt st' a' w' → Ext (Names (base + 4 * x) st.n) ρ ρ' ok ok' w w' → st.n ≤ st'.n → wpAny P .any ops Qc f (listed.setIfInBounds x true) a' w' := by
    intro st' a' w' ρ' ok' hk R' x' hn'
    have hl2 := left_first (n := ops.size) hlx' hun' (by omega)
    have hr2 := runB_true (P := P) (x := x) (ops := ops) (base := base) (Q := Q) (ops.toList.drop (x + 1)) (x + 1) st' rfl (by omega) hk
    rw [List.length_drop, Array.length_toList, ← hl2] at hr2
    refine draw_anyG T hb0 hd hok (ks := []) (fun _ _ k hk => by cases hk) hQ f _ st' a' w' ρ' ok' (by simpa using hsz) (by rw [hl2, List.length_range']; omega) hcl' R' (X.trans (x'.weaken fun z hz => ?_)) (by omega) (fun k hk' j hj => ?_) hr2
    · rcases hz with hz | hz <;> omega
    · rw [hl2] at hk'
      have hk2 := List.mem_range'_1.1 hk'
      rw [x'.pl _ (by rintro (hz | hz) <;> omega)]
      exact hfr k (by omega) (by omega) j hj
  refine ⟨fun h => (by rw [h] at hmemx; cases hmemx), fun i hi => ?_⟩
  have hix : i = x := by
    obtain ⟨hli, oi, hoi, hre⟩ := mem_ready.1 hi
    have hlt : i < ops.size := (Array.getElem?_eq_some_iff.1 hoi).1
    rcases Nat.lt_or_ge i x with g | g
    · have := hlx i g
      rw [hli] at this; cases this
    · rcases Nat.eq_or_lt_of_le g with g | g
      · exact g.symm
      · exfalso
        have h5 := List.all_eq_true.1 hbe i (by simpa using hlt)
        simp only [Bool.or_eq_true, decide_eq_true_eq, Bool.and_eq_true, List.contains_iff_mem] at h5
        rcases h5 with h5 | h5
        · omega
        · have h1 := closed_memG hd hcl i oi hoi hre x h5.1
          have h2 := hun x (Nat.le_refl _) hxs
          have hys : x < listed.size := by omega
          simp [hys] at h1 h2
          rw [h1] at h2; cases h2
  subst hix
  unfold wpOp
  simp only [ho]
  rw [want_sound R ops o]
  simp only [runB] at hq
  unfold brA at hq
  by_cases hw : wantA ops o st.t = true
  · rw [if_pos hw] at hq ⊢
    exact Or.inl (step_sound T R hopi.1 hopi.2 (by omega) (fun j hj => hfr i (Nat.le_refl _) hxs j hj) hq rest)
  · rw [if_neg hw] at hq ⊢
    exact rest _ _ _ _ _ hq (R.put (Ext.refl (Names (base + 4 * i) st.n) ρ ok w) R.heap (dst_lt hopi.2) .und) (Ext.refl _ _ _ _) (by cases o.dst <;> exact Nat.le_refl _)
theorem bar_sound (T : TypesOk P) (hm : P.follows .mixedOrders = true) {ρ0 : Nat → Option Place} {ok0 : Nat → Prop} {w0 : World} {n0 : Nat} {id p x : Nat} {ops : Array Oper} (hp : p ≤ x) (hbo : barOk nt p x ops = true) {Q : St → Prop} {st : St} {a : Act} {w : World} (S : Since B W0 nt ρ0 ok0 w0 n0 st a w)
    (hr : runB P x ops st.n ops.toList 0 Q ⟨st.t, st.h, st.n + 4 * ops.size⟩) : (Code.region id ops true).wp P (fun e a w => e = .normal ∧ ∃ st, Q st ∧ Since B W0 nt ρ0 ok0 w0 n0 st a w) a w := by
  have hbo2 := hbo
  unfold barOk at hbo2
  simp only [Bool.and_eq_true, decide_eq_true_eq] at hbo2
  obtain ⟨⟨⟨⟨⟨⟨hok, hd⟩, hxs⟩, -⟩, hbe⟩, hhd⟩, hns⟩ := hbo2
  obtain ⟨ρ, ok, R, X, hn⟩ := S
  have R' : Rl B W0 ρ ok nt ⟨st.t, st.h, st.n + 4 * ops.size⟩ a w.drew := by
    refine ⟨⟨R.heap.below.drew, R.heap.base, R.heap.okb, fun i hi => R.heap.fresh i (by simp only at hi; omega), fun i e he => ?_, R.heap.inj⟩, fun k => (R.tmps k).mono (fun _ _ => rfl) (fun b hb => ⟨hb, rfl⟩), R.size, R.defers⟩
    rcases R.heap.row i e he with h | ⟨b, cap, cur, q1, q2, q3, q4, q5, q6, q7, q8, q9, q10⟩
    · exact Or.inl h
    · exact Or.inr ⟨b, cap, cur, q1, q2, q3, q4, q5, q6, q7, q8, q9, q10.1, q10.2.1, fun j c u hc hu => (q10.2.2 j c u hc hu).mono (fun _ _ => rfl) (fun b hb => ⟨hb, rfl⟩)⟩
  have X' : Ext (fun i => n0 ≤ i) ρ0 ρ ok0 ok w0 w.drew := ⟨X.pl, X.keep, X.stay, X.new, X.size⟩
  have hfr : ∀ k, k < ops.size → ∀ j, j < 4 → ρ (st.n + 4 * k + j) = none := fun k hk j hj => R.heap.fresh _ (by omega)
  refine wp_region_any hm ?_
  have hQc : ∀ st a w, Q st → Since B W0 nt ρ0 ok0 w0 n0 st a w → (Exit.normal = Exit.normal ∧ ∃ st, Q st ∧ Since B W0 nt ρ0 ok0 w0 n0 st a w) := fun st a w h1 h2 => ⟨rfl, st, h1, h2⟩
  have hrep : ∀ z, z < ops.size → (Array.replicate ops.size false).getD z true = false := by
    intro k hk
    simp [hk]
  have hcl0 : ∀ k o, ops[k]? = some o → (Array.replicate ops.size false).getD k true = true → ∀ e, e ∈ o.after → Region.binds .any e = true → (Array.replicate ops.size false).getD e.on false = true := by
    intro k o hk hl
    rw [hrep k (Array.getElem?_eq_some_iff.1 hk).1] at hl; cases hl
  match p, hhd with
  | 0, _ =>
    exact bar_any T hp hn hbo hQc _ ⟨st.t, st.h, st.n + 4 * ops.size⟩ a w.drew ρ ok (by simp) (fun y hy => by omega) (fun z _ hz => hrep z hz) hcl0 R' X' (Nat.le_refl _) (fun k _ hk => hfr k hk) (by simpa using hr)
  | 1, hhd =>
    simp only [headB] at hhd
    split at hhd
    · rename_i d k ty pos after ho
      simp only [Bool.and_eq_true] at hhd
      obtain ⟨ha, hf⟩ := hhd
      have ha' : after = #[] := by simpa [Array.isEmpty] using ha
      subst ha'
      have h0s : 0 < ops.size := by omega
      have hsz1 : ops.size = (ops.size - 1) + 1 := by omega
      have hdl : ops.toList = ⟨some d, .move (.tmp k), ty, pos, #[], none⟩ :: ops.toList.drop 1 := by
        obtain ⟨h1, h2⟩ := Array.getElem?_eq_some_iff.1 ho
        have := List.drop_eq_getElem_cons (l := ops.toList) (i := 0) (by simpa using h1)
        simpa [h2] using this
      rw [hdl] at hr
      simp only [runB, wantA, brA_true] at hr
      obtain ⟨r, hr1, hr2⟩ := hr
      have er : r = st.t k := (Option.some.inj hr1).symm
      subst er
      have hdlt : d < nt := by
        have := List.all_eq_true.1 hok ⟨some d, .move (.tmp k), ty, pos, #[], none⟩ (by rw [hdl]; simp)
        simp only [operOk, Bool.and_eq_true] at this
        simpa [dstOk] using this.2
      conv => arg 5; rw [hsz1]
      refine wpAny_take (i := 0) (oi := ⟨some d, .move (.tmp k), ty, pos, #[], none⟩) (v := a.tmps.getD k undef) ho hns hf ?_ (fun c a w h => by cases h.1) (Or.inl ⟨by simp [Region.wanted], fun w => by simp [execOp, Act.eval]⟩) ?_
      · have : 0 ∈ Region.ready .any ops (Array.replicate ops.size false) := by
          rw [mem_ready]
          exact ⟨hrep 0 h0s, _, ho, fun e he => by simp at he⟩
        simpa using this
      · have hev : V B ρ ok w.drew (st.t k) (a.tmps.getD k undef) := R'.tmps k
        refine bar_any T hp hn hbo hQc _ (St.put ⟨st.t, st.h, st.n + 4 * ops.size⟩ (some d) (st.t k)) _ w.drew ρ ok (by simp) (fun y hy => ?_) (fun z hz hz2 => ?_) (fun k2 o2 hk2 hl2 => ?_) (R'.put (Ext.refl (fun _ => False) ρ ok w.drew) R'.heap (fun k2 e => by cases e; exact hdlt) hev) X' (Nat.le_refl _) (fun k _ hk => hfr k hk) hr2
        · have : y = 0 := by omega
          subst this
          simp [h0s]
        · rw [getD_set_ne true (by omega)]; exact hrep z hz2
        · by_cases hk0 : k2 = 0
          · subst hk0
            rw [ho] at hk2; cases hk2
            intro e he; simp at he
          · rw [getD_set_ne true (Ne.symm hk0), hrep k2 (Array.getElem?_eq_some_iff.1 hk2).1] at hl2; cases hl2
    · cases hhd
/-! code in which one region is such -/
def codeOkB (P : Program) (T : List (Nat × List Nat)) (nt k p x : Nat) : Code → Bool
  | .region id ops d => if id = k then d && barOk nt p x ops && P.follows .mixedOrders && decide (p ≤ x) else codeOkG P T nt (.region id ops d)
  | .seq a b => codeOkB P T nt k p x a && codeOkB P T nt k p x b
  | .cond c a b => okOpd c && codeOkB P T nt k p x a && codeOkB P T nt k p x b
  | .block _ c => codeOkB P T nt k p x c
  | c => codeOkG P T nt c
def wpB0 (P : Program) (T : List (Nat × List Nat)) (k x : Nat) : Code → (Exit → St → Prop) → St → Prop
  | .region id ops d, Q, st => brA (decide (id = k)) (runB P x ops st.n ops.toList 0 (Q .normal) ⟨st.t, st.h, st.n + 4 * ops.size⟩) (wp0 P (markC T (.region id ops d)) Q st) ⟨⟩ ⟨⟩
  | .seq a b, Q, st => wpB0 P T k x a (thenA (wpB0 P T k x b Q) Q ⟨⟩ ⟨⟩) st
  | .cond c a b, Q, st => bindO (boolOf (evA st.t c)) (fun v => brA v (wpB0 P T k x a Q st) (wpB0 P T k x b Q st) ⟨⟩ ⟨⟩) ⟨⟩
  | .block id c, Q, st => wpB0 P T k x c (blockA id Q ⟨⟩) st
  | c, Q, st => wp0 P (markC T c) Q st
def wpB (P : Program) (T : List (Nat × List Nat)) (k x : Nat) (c : Code) (Q : Exit → St → Prop) (_ : Tg c) (_ : Tg Q) (st : St) : Prop := wpB0 P T k x c Q st
section
variable {Q : Exit → St → Prop} {st : St} {T : List (Nat × List Nat)} {k x : Nat}
theorem wpB_region {id : Nat} {l : List Oper} {d : Bool} : wpB P T k x (.region id l.toArray d) Q ⟨⟩ ⟨⟩ st = brA (decide (id = k)) (barA P x l.toArray st.n l 0 (Q .normal) ⟨⟩ ⟨⟩ ⟨⟩ ⟨st.t, st.h, st.n + 4 * l.length⟩) (wpA P (markC T (.region id l.toArray d)) Q ⟨⟩ ⟨⟩ st) ⟨⟩ ⟨⟩ := rfl
theorem wpB_region_app {id : Nat} {a b : List Oper} {d : Bool} : wpB P T k x (.region id (List.append a b).toArray d) Q ⟨⟩ ⟨⟩ st = brA (decide (id = k)) (barA P x (List.append a b).toArray st.n (List.append a b) 0 (Q .normal) ⟨⟩ ⟨⟩ ⟨⟩ ⟨st.t, st.h, st.n + 4 * (List.append a b).length⟩) (wpA P (markC T (.region id (List.append a b).toArray d)) Q ⟨⟩ ⟨⟩ st) ⟨⟩ ⟨⟩ := rfl
theorem wpB_skip : wpB P T k x .skip Q ⟨⟩ ⟨⟩ st = Q .normal st := rfl
theorem wpB_seq {a b : Code} : wpB P T k x (.seq a b) Q ⟨⟩ ⟨⟩ st = wpB P T k x a (thenA (wpB P T k x b Q ⟨⟩ ⟨⟩) Q ⟨⟩ ⟨⟩) ⟨⟩ ⟨⟩ st := rfl
theorem wpB_cond {c : Operand} {a b : Code} : wpB P T k x (.cond c a b) Q ⟨⟩ ⟨⟩ st = bindO (boolOf (evA st.t c)) (fun v => brA v (wpB P T k x a Q ⟨⟩ ⟨⟩ st) (wpB P T k x b Q ⟨⟩ ⟨⟩ st) ⟨⟩ ⟨⟩) ⟨⟩ := rfl
theorem wpB_block {id : Nat} {c : Code} : wpB P T k x (.block id c) Q ⟨⟩ ⟨⟩ st = wpB P T k x c (blockA id Q ⟨⟩) ⟨⟩ ⟨⟩ st := rfl
theorem wpB_loop {c : Code} : wpB P T k x (.loop c) Q ⟨⟩ ⟨⟩ st = wpA P (markC T (.loop c)) Q ⟨⟩ ⟨⟩ st := rfl
theorem wpB_exit {id : Nat} : wpB P T k x (.exit id) Q ⟨⟩ ⟨⟩ st = Q (.exit id) st := rfl
theorem wpB_ret : wpB P T k x .ret Q ⟨⟩ ⟨⟩ st = Q .ret st := rfl
end
attribute [simp] wpB_region wpB_region_app wpB_skip wpB_seq wpB_cond wpB_block wpB_loop wpB_exit wpB_ret barA_nil barA_cons
theorem code_soundB (T : TypesOk P) {M : List (Nat × List Nat)} {k p x : Nat} {ρ0 : Nat → Option Place} {ok0 : Nat → Prop} {w0 : World} {n0 : Nat} : ∀ (c : Code) (Q : Exit → St → Prop) (st : St) (a : Act) (w : World), codeOkB P M nt k p x c = true → Since B W0 nt ρ0 ok0 w0 n0 st a w → wpB0 P M k x c Q st →
    c.wp P (fun e a w => ∃ st, Q e st ∧ Since B W0 nt ρ0 ok0 w0 n0 st a w) a w := by
  intro c
  induction c with
  | region id ops d =>
    intro Q st a w hok S h
    by_cases hid : id = k
    · simp only [codeOkB, if_pos hid, Bool.and_eq_true, decide_eq_true_eq] at hok
      simp only [wpB0, hid, decide_true, brA_true] at h
      obtain ⟨⟨⟨hd, hb⟩, hm⟩, hp⟩ := hok
      subst hd
      refine wp_mono (bar_sound (Q := Q .normal) T hm hp hb S h) ?_
      rintro e a' w' ⟨rfl, st', hq, S'⟩
      exact ⟨st', hq, S'⟩
    · simp only [codeOkB, if_neg hid] at hok
      simp only [wpB0, hid, decide_false, brA_false] at h
      exact code_soundG T (M := M) _ Q st a w hok S h
  | seq y z ihx ihy =>
    intro Q st a w hok S h
    simp only [codeOkB, Bool.and_eq_true] at hok
    refine wp_seq (wp_mono (ihx _ st a w hok.1 S h) ?_)
    rintro e a' w' ⟨st', hq, S'⟩
    cases e with
    | normal => exact ihy Q st' a' w' hok.2 S' hq
    | exit id => exact ⟨st', hq, S'⟩
    | goto l => exact ⟨st', hq, S'⟩
    | ret => exact ⟨st', hq, S'⟩
    | panic c => exact ⟨st', hq, S'⟩
    | outgrown => exact ⟨st', hq, S'⟩
  | cond c y z ihx ihy =>
    intro Q st a w hok S h
    simp only [codeOkB, Bool.and_eq_true] at hok
    obtain ⟨b, hb, hbr⟩ := h
    have hv : a.eval c = .bool b := by
      obtain ⟨ρ, ok, R, _, _⟩ := S
      have := ev_sound R hok.1.1
      unfold boolOf at hb
      split at hb
      · rename_i b' heq
        rw [heq] at this
        cases hb
        exact V_at this
      · cases hb
    refine wp_cond hv ?_
    cases b with
    | true => exact ihx Q st a w hok.1.2 S hbr
    | false => exact ihy Q st a w hok.2 S hbr
  | block id c ih =>
    intro Q st a w hok S h
    refine wp_block (wp_mono (ih _ st a w hok S h) ?_)
    rintro e a' w' ⟨st', hq, S'⟩
    cases e with
    | exit k =>
      simp only [Exit.inBlock]
      simp only [blockA] at hq
      split
      · rename_i hk; rw [if_pos hk] at hq; exact ⟨st', hq, S'⟩
      · rename_i hk; rw [if_neg hk] at hq; exact ⟨st', hq, S'⟩
    | normal => exact ⟨st', hq, S'⟩
    | goto l => exact ⟨st', hq, S'⟩
    | ret => exact ⟨st', hq, S'⟩
    | panic c => exact ⟨st', hq, S'⟩
    | outgrown => exact ⟨st', hq, S'⟩
  | skip => intro Q st a w hok S h; exact code_soundG T (M := M) _ Q st a w hok S h
  | loop c ih => intro Q st a w hok S h; exact code_soundG T (M := M) _ Q st a w hok S h
  | exit id => intro Q st a w hok S h; exact code_soundG T (M := M) _ Q st a w hok S h
  | ret => intro Q st a w hok S h; exact code_soundG T (M := M) _ Q st a w hok S h
  | rangeFunc => intro Q st a w hok; simp [codeOkB, codeOkG] at hok
  | scope => intro Q st a w hok; simp [codeOkB, codeOkG] at hok
  | label => intro Q st a w hok; simp [codeOkB, codeOkG] at hok
  | goto => intro Q st a w hok; simp [codeOkB, codeOkG] at hok
  | refuse => intro Q st a w hok; simp [codeOkB, codeOkG] at hok
theorem CS_inlineB (T : TypesOk P) (M : List (Nat × List Nat)) (k p x : Nat) {f : FuncId} {fn : Func} {c : Code} {args : List AV} {h : Heap} {n : Nat} {Q : Heap → Nat → AV → Prop} (hf : P.funcs[f]? = some fn) (hc : Callable P f) (hb : fn.body = some c) (hok : codeOkB P M fn.ntmps k p x c = true) (hl : args.length ≤ fn.ntmps)
    (hw : wpB P M k x c (endA P fn.results.toList Q ⟨⟩) ⟨⟩ ⟨⟩ ⟨initT args, h, n⟩) : CS P f args h n Q := by
  refine ⟨hc, fun B W0 ρ ok w vs H hv => ?_⟩
  refine calls_of_wp hf hb ?_
  have hlen := hv.1
  have R : Rl B W0 ρ ok fn.ntmps ⟨initT args, h, n⟩ { tmps := vs.toArray ++ Array.replicate (fn.ntmps - vs.toArray.size) undef, defers := [] } w := by
    refine ⟨H, fun k => ?_, by simp; omega, rfl⟩
    show V B ρ ok w ((args[k]?).getD .und) _
    by_cases hk : k < args.length
    · obtain ⟨c, hc⟩ : ∃ c, args[k]? = some c := ⟨args[k], by simp⟩
      obtain ⟨u, hu⟩ : ∃ u, vs[k]? = some u := ⟨vs[k]'(by omega), by simp⟩
      have e : (vs.toArray ++ Array.replicate (fn.ntmps - vs.toArray.size) undef).getD k undef = u := by
        have : k < vs.length := by omega
        obtain ⟨g1, g2⟩ := List.getElem?_eq_some_iff.1 hu
        simp [Array.getElem?_append, this, g2]
      rw [hc, e]
      exact hv.2 k c u hc hu
    · have e1 : args[k]? = none := by simp; omega
      have e2 : (vs.toArray ++ Array.replicate (fn.ntmps - vs.toArray.size) undef).getD k undef = undef := by
        have : ¬ k < vs.length := by omega
        simp only [Array.getD_eq_getD_getElem?, Array.getElem?_append]
        simp [this]
        by_cases h2 : k - vs.length < fn.ntmps - vs.length <;> simp [h2]
      rw [e1, e2]
      exact .und
  refine wp_mono (code_soundB T c _ _ _ w hok ⟨ρ, ok, R, Ext.refl _ _ _ _, Nat.le_refl _⟩ hw) ?_
  rintro e a' w' ⟨st', hq, ρ', ok', R', x1, hn⟩
  have fin : ∀ r, resultsA P fn.results.toList st' = some r → Q st'.h st'.n r → a'.defers = [] ∧ ∃ v, (results fn a'.tmps).run P w' = .ok v w' ∧ ∃ v_1 h' n' r ρ' ok', Ending.returned v = .returned v_1 ∧ Q h' n' r ∧ n ≤ n' ∧ HRel B W0 ρ' ok' h' n' w' ∧ V B ρ' ok' w' r v_1 ∧ Ext (fun i => n ≤ i) ρ ρ' ok ok' w w' := by
    intro r hr hq
    obtain ⟨z, h1, h2⟩ := results_sound R' hr
    exact ⟨R'.defers, z, h1, z, _, _, r, ρ', ok', rfl, hq, hn, R'.heap, h2, x1⟩
  cases e with
  | normal => obtain ⟨r, hr, hq⟩ := hq; exact fin r hr hq
  | ret => obtain ⟨r, hr, hq⟩ := hq; exact fin r hr hq
  | exit id => exact hq.elim
  | goto l => exact hq.elim
  | panic c => exact hq.elim
  | outgrown => exact hq.elim
end
end Go.Proofs.YtginfkadmjikhaaGreatDoor.E
