
/- Hd: hands: copies. -/
import Derived.Test.YtadmfokicjjglaaGreatDoorH1
import Derived.Test.YtadmfokicjjglaaGreatDoorX3
namespace Go.Proofs.YtadmfokicjjglaaGreatDoor.E
open Go.RowKit Go.Proofs
set_option maxRecDepth 100000
set_option maxHeartbeats 1000000
set_option linter.unusedSimpArgs false
def mix {α β : Type} (f g : α -> β) (xs : List α) (k : Nat) : List β := (xs.take k).map f ++ (xs.drop k).map g
@[simp] theorem mix_len {α β : Type} (f g : α -> β) (xs : List α) (k : Nat) : (mix f g xs k).length = xs.length := by simp [mix]; omega
@[simp] theorem mix_zero {α β : Type} (f g : α -> β) (xs : List α) : mix f g xs 0 = xs.map g := by simp [mix]
@[simp] theorem mix_all {α β : Type} (f g : α -> β) (xs : List α) : mix f g xs xs.length = xs.map f := by simp [mix]
theorem mix_get {α β : Type} {f g : α -> β} {xs : List α} {k : Nat} {x : α} (h : xs[k]? = some x) : (mix f g xs k)[k]? = some (g x) := by
 have hk : k < xs.length := (List.getElem?_eq_some_iff.1 h).1;unfold mix;rw [List.getElem?_append_right (by simp; omega)];simp [Nat.min_eq_left (Nat.le_of_lt hk), h]
theorem mix_set {α β : Type} {f g : α -> β} {xs : List α} {k : Nat} {x : α} (h : xs[k]? = some x) : (mix f g xs k).set k (f x) = mix f g xs (k + 1) := by
 have hk : k < xs.length := (List.getElem?_eq_some_iff.1 h).1;apply List.ext_getElem?;intro j;unfold mix;rw [List.getElem?_set];have hl : ((xs.take k).map f).length = k := by simp; omega
 have hl2 : ((xs.take (k + 1)).map f).length = k + 1 := by simp; omega
 split
 ·rename_i e; subst e
  rw [if_pos (by simp; omega), List.getElem?_append_left (by omega)];simp [h]
 ·rename_i e;rcases Nat.lt_or_ge j k with g1 | g1
  ·rw [List.getElem?_append_left (by omega), List.getElem?_append_left (by omega)];simp [List.getElem?_take];rw [if_pos g1, if_pos (by omega)]
  ·rw [List.getElem?_append_right (by omega), List.getElem?_append_right (by omega), hl, hl2];simp;congr 2
   omega
theorem plain_map {α : Type} {f : α -> List AV} (h : ∀ x, (f x).all plainCell = true) (xs : List α) {el : TypeId} {s : Nat} : plainNews [⟨el, s, xs.map f⟩] = true := by
 simp only [plainNews, List.all_cons, List.all_nil, Bool.and_true, List.all_map, List.all_eq_true, Function.comp];exact fun x _ => List.all_eq_true.1 (h x)
theorem hand_Copy (h : S.Hand) (h1 : h.c.d.length <= 100000) (h2 : h.got.length <= 100000) (h3 : ∀ a, a ∈ h.got -> a.d.length <= 100000) :
  C Tryz.prog 75 [.agg (handC false h)] (.agg [Int' h.seq, Bool' h.waits, Int' h.c.kind, Int' h.c.z, Int' h.c.n, Int' h.c.pos, .lst true 1 (I h.c.d), .own 0 0 h.got.length]) [⟨76, 3, h.got.map (ansC true)⟩] := by
 obtain ⟨s, w, c, got⟩ := h;simp only at h1 h2 h3 ⊢;have hcl := clone_answers (got.map (ansC false)) (by simp; omega) (plain_map (fun _ => rfl) _);simp only [List.length_map] at hcl;replace hcl := hid hcl;replace h3 := hid h3;refine C_inline [28] Tryz.func75 (fun _ _ => by kernel_rfl) rfl (by kernel_rfl) (by rfl) (by decide) (by rfl) (by rfl) (by first | rfl | exact plain_I _ | exact plain_map (fun _ => rfl) _) ?_;refine rC (cmd_Copy c (by omega)) ?_;refine rC hcl.out ?_;refine rN ?_;refine loop_count 16 got.length (fun k h m _ => h 0 = some ⟨85, 8, [[Int' s, Bool' w, Int' c.kind, Int' c.z, Int' c.n, Int' c.pos, .lst true 1 (I c.d), .own 28 0 got.length]]⟩ /\ h 28 = some ⟨76, 3, mix (ansC true) (ansC false) got k⟩ /\ h 4 = some ⟨85, 8, [[Int' 0, Bool' false, Int' 0, Int' 0, Int' 0, Int' 0, .nl, .nl]]⟩ /\ ∃ d, m = d + 64) _ rfl (by rfl) ?_ ?_ ?_
 ·simp -dsimp -implicitDefEqProofs
 ·rintro k t h m hk hci hs ⟨h0, h28, h4, d, rfl⟩;have hw : IntKind.i64.wrap ((k : Int) + 1) = (k : Int) + 1 := wrap_ok (by omega);obtain ⟨x, hx⟩ : ∃ x, got[k]? = some x := ⟨got[k], by simp⟩;have hk' : decide (k < got.length) = true := by simp [hk]
  have hm := mix_get (f := ansC true) (g := ansC false) hx;have e1 := hs 1 rfl;have e2 := hs 2 rfl;have e14 := hs 14 rfl;have e15 := hs 15 rfl;clear hs;simp -dsimp -implicitDefEqProofs at e1 e2 e14 e15;have hx3 := h3.out x (List.mem_of_getElem? hx);have hms := mix_set (f := ansC true) (g := ansC false) hx;refine rD (aN e1 (aN e2 (aN e14 (aN e15 (aN hci (aN hk' (aN hm (aN h0 (aN h28 (aN h4 hk)))))))))) (desk_CopyAnswer x (by omega)) ?_;exact rW (aN h0 (aN h28 (aN h4 (aN hk (aN e1 (aN e2 (aN e14 (aN e15 (aN hci (aN hw (aN hm hms)))))))))))
 ·rintro t h m hci hs ⟨h0, h28, h4, d, rfl⟩;have e1 := hs 1 rfl;have e2 := hs 2 rfl;have e14 := hs 14 rfl;have e15 := hs 15 rfl;clear hs;simp -dsimp -implicitDefEqProofs at e1 e2 e14 e15;refine rS (aN e1 (aN e2 (aN e14 (aN e15 (aN hci (aN h0 (aN h28 h4))))))) ?_;exact ⟨⟨.agg [Int' s, Bool' w, Int' c.kind, Int' c.z, Int' c.n, Int' c.pos, .lst true 1 (I c.d), .own 0 0 got.length], by rfl, Sub.refl _⟩, by simp [h28]⟩
def smallHand (h : S.Hand) : Prop := h.c.d.length <= 100000 /\ h.got.length <= 100000 /\ ∀ a, a ∈ h.got -> a.d.length <= 100000
theorem firstBad_zero {α : Type} {f : α -> Int} : ∀ {xs : List α}, S.firstBad f xs = 0 -> ∀ x, x ∈ xs -> f x = 0
 | [], _, x, hx => by simp at hx
 | y :: xs, h, x, hx => by
  unfold S.firstBad at h;by_cases g : f y = 0
  ·rw [if_neg (by simp [g])] at h;rcases List.mem_cons.1 hx with rfl | hx
   ·exact g
   ·exact firstBad_zero h x hx
  ·rw [if_pos g] at h; exact absurd h g
theorem checkAnswer_len {a : S.Answer} (h : S.checkAnswer a = 0) : a.d.length <= 8 := by
 unfold S.checkAnswer at h;split at h; · cases h
 split at h; · cases h
 omega
theorem checkCmd_len {c : S.Cmd} (h : S.checkCmd c = 0) : c.d.length <= 8 := by
 unfold S.checkCmd at h;split at h; · cases h
 split at h; · cases h
 split at h; · cases h
 omega
theorem checkHand_parts {h : S.Hand} (e : S.checkHand h = 0) : (0 <= h.seq /\ h.seq <= 40) /\ (∀ a, a ∈ h.got -> S.checkAnswer a = 0) /\ (h.got.length : Int) + (if h.waits = true then 1 else 0) = h.seq /\ (h.waits = false -> h.c = S.Cmd.zero) /\ (h.waits = true -> S.checkCmd h.c = 0) := by
 unfold S.checkHand at e;by_cases h1 : h.seq < 0 \/ 40 < h.seq
 ·rw [if_pos h1] at e; cases e
 rw [if_neg h1] at e;by_cases h2 : S.firstBad S.checkAnswer h.got ≠ 0
 ·rw [if_pos h2] at e; exact absurd e h2
 rw [if_neg h2] at e;by_cases h3 : (h.got.length : Int) + (if h.waits = true then 1 else 0) ≠ h.seq \/ (h.waits = false /\ h.c ≠ S.Cmd.zero)
 ·rw [if_pos h3] at e; cases e
 rw [if_neg h3] at e;refine ⟨by omega, fun a ha => firstBad_zero (by simpa using h2) a ha, ?_, ?_, ?_⟩
 ·exact Decidable.byContradiction fun g => h3 (Or.inl g)
 ·intro hw; exact Decidable.byContradiction fun g => h3 (Or.inr ⟨hw, g⟩)
 ·intro hw; rw [if_pos hw] at e; exact e
theorem small_of_check {h : S.Hand} (e : S.checkHand h = 0) : smallHand h := by
 obtain ⟨h1, h2, h3, h4, h5⟩ := checkHand_parts e;refine ⟨?_, ?_, fun a ha => by have := checkAnswer_len (h2 a ha); omega⟩
 ·cases hw : h.waits
  ·rw [h4 hw]; simp [S.Cmd.zero]
  ·have := checkCmd_len (h5 hw); omega
 ·split at h3 <;> omega
def OutL (h : Heap) (cells target : List AV) : Prop := ∃ cells', cells.mapM (outLeaf h []) = some cells' /\ SubL SubF cells' target
theorem OutL.nil (h : Heap) : OutL h [] [] := ⟨[], rfl, .nil _⟩
theorem outL {h : Heap} {cells target : List AV} (g : OutL h cells target := by repeat (first | exact OutL.nil _ | refine OutL.at ?_ | refine OutL.nl ?_ | refine OutL.lst (by first | exact fun h => h | exact fun _ => rfl | exact fun h => by cases h) ?_ | refine OutL.ints rfl ⟨rfl, rfl⟩ rfl ?_ | refine OutL.ints rfl ⟨rfl, by simp⟩ (by simp) ?_ | refine OutL.answers rfl ⟨rfl, rfl⟩ rfl ?_ | refine OutL.answers rfl ⟨rfl, by simp⟩ (by simp) ?_ | refine OutL.zones rfl ⟨rfl, rfl⟩ rfl ?_ | refine OutL.zones rfl ⟨rfl, by simp⟩ (by simp) ?_ | refine OutL.lasts rfl ⟨rfl, rfl⟩ rfl ?_ | refine OutL.lasts rfl ⟨rfl, by simp⟩ (by simp) ?_ | refine OutL.hands rfl ⟨rfl, rfl⟩ rfl ?_ | refine OutL.hands rfl ⟨rfl, by simp⟩ (by simp) ?_ | refine OutL.mails rfl ⟨rfl, rfl⟩ rfl ?_ | refine OutL.mails rfl ⟨rfl, by simp⟩ (by simp) ?_ | refine OutL.recs rfl ⟨rfl, rfl⟩ rfl ?_ | refine OutL.recs rfl ⟨rfl, by simp⟩ (by simp) ?_ | refine OutL.bytes rfl ⟨rfl, rfl⟩ rfl ?_ | refine OutL.bytes rfl ⟨rfl, by simp⟩ (by simp) ?_ )) : OutL h cells target := g
theorem OutL.cons {h : Heap} {c c' t : AV} {cs ts : List AV} (ho : outLeaf h [] c = some c') (hs : SubF c' t) (g : OutL h cs ts) : OutL h (c :: cs) (t :: ts) := by
 obtain ⟨l, g1, g2⟩ := g;exact ⟨c' :: l, by rw [List.mapM_cons, ho, g1]; rfl, .cons hs g2⟩
theorem OutL.at {h : Heap} {v : Value} {cs ts : List AV} (g : OutL h cs ts) : OutL h (.at v :: cs) (.at v :: ts) := .cons rfl (.refl _) g
theorem OutL.nl {h : Heap} {fr : Bool} {s : Nat} {cs ts : List AV} (g : OutL h cs ts) : OutL h (.nl :: cs) (.lst fr s [] :: ts) := .cons rfl .nl g
theorem OutL.lst {h : Heap} {fr fr' : Bool} {s : Nat} {rows : List (List AV)} {cs ts : List AV} (e : fr' = true -> fr = true) (g : OutL h cs ts) : OutL h (.lst fr s rows :: cs) (.lst fr' s rows :: ts) := .cons rfl (.lst e (SubR.refl _)) g
theorem OutL.ints {h : Heap} {i n : Nat} {e : HE} {fr : Bool} {ks : List Int} {cs ts : List AV} (hi : h i = some e) (he : e.s = 1 /\ e.rows = I ks) (hn : n = ks.length) (g : OutL h cs ts) : OutL h (.own i 0 n :: cs) (.lst fr 1 (I ks) :: ts) :=
 .cons (own_out (ty := e.ty) (by rw [hi, <- he.1, <- he.2]) hn) (.lst (fun _ => rfl) (SubR.refl _)) g
theorem ends_ag {h : Heap} {n : Nat} {cells target : List AV} {e e' : Int} (ho : OutL h cells target) (he : e = e') : Ends [] (.tup [.agg target, Int' e']) [] h n (.tup [.agg cells, Int' e]) := by
 subst he;obtain ⟨cells', ho, hs⟩ := ho;refine ⟨⟨.tup [.agg cells', Int' e], ?_, .tup (.cons (.agg hs) (.cons (.leaf (.refl _)) (.nil _)))⟩, rfl⟩
 have e1 : outAgg h [] (.agg cells) = some (.agg cells') := by
  show (cells.mapM (outLeaf h [])).map AV.agg = _;rw [ho]; rfl
 show (List.mapM (outAgg h []) [.agg cells, Int' e]).map AV.tup = _;rw [List.mapM_cons, e1];rfl
theorem own_outR {h : Heap} {i n : Nat} {ty : TypeId} {s : Nat} {rows rows' : List (List AV)} (hi : h i = some ⟨ty, s, rows⟩) (hn : n = rows.length) (hm : rows.mapM (fun (r : List AV) => r.mapM (leafP h [] 2)) = some rows') (hf : (rows.all fun r => r.all freshCell) = true) :
  outLeaf h [] (.own i 0 n) = some (.lst true s rows') := by
 subst hn
 have e2 : leafP h [] 3 (.own i 0 rows.length) = some (.lst false s rows') := by
  show (match h i with | some e => if 0 + rows.length <= e.rows.length then (((e.rows.drop 0).take rows.length).mapM fun (r : List AV) => r.mapM (leafP h [] 2)).map (AV.lst false e.s ·) else none | none => none) = _;rw [hi];simp only [List.drop_zero];rw [if_pos (by simp), List.take_of_length_le (by simp), hm];rfl
 show (match h i, leafP h [] 3 (.own i 0 rows.length) with | some e, some (.lst _ s rows) => some (AV.lst (e.rows.all fun r => r.all freshCell) s rows) | _, _ => none) = _;rw [hi, e2];simp only [hf]
theorem own_answers {h : Heap} {i n : Nat} {ty : TypeId} {xs : List S.Answer} (hi : h i = some ⟨ty, 3, xs.map (ansC true)⟩) (hn : n = xs.length) : outLeaf h [] (.own i 0 n) = some (.lst true 3 (xs.map (ansC false))) :=
 own_outR hi (by simpa using hn) (mapM_map (f := ansC true) (g := fun (r : List AV) => r.mapM (leafP h [] 2)) (e := ansC false) (fun _ => rfl) xs) (by simp [freshCell])
theorem OutL.answers {h : Heap} {i n : Nat} {e : HE} {fr : Bool} {xs : List S.Answer} {cs ts : List AV} (hi : h i = some e) (he : e.s = 3 /\ e.rows = xs.map (ansC true)) (hn : n = xs.length) (g : OutL h cs ts) : OutL h (.own i 0 n :: cs) (.lst fr 3 (xs.map (ansC false)) :: ts) :=
 .cons (own_answers (ty := e.ty) (by rw [hi, <- he.1, <- he.2]) hn) (.lst (fun _ => rfl) (SubR.refl _)) g
@[simp] theorem take_map_len {α β : Type} (f : α -> β) (xs : List α) : (xs.map f).take xs.length = xs.map f := List.take_of_length_le (by simp)
theorem hand_Ask (h : S.Hand) (c : S.Cmd) : C Tryz.prog 80 [.agg (handC false h), .agg (cmdC false c)] (.tup [.agg (handC true (S.ask h c).1), Int' (S.ask h c).2]) [] := by
 obtain ⟨r, hr⟩ : ∃ r, S.ask h c = r := ⟨_, rfl⟩;rw [hr];unfold S.ask at hr;replace hr := hid hr;have hsm := fun e => small_of_check (h := h) e
 have hcl := fun e => checkCmd_len (c := c) e
 replace hsm := hid hsm;replace hcl := hid hcl;refine CI Tryz.func80 ?_;refine rC (hand_Check h) ?_;refine rN ?_;refine brA_split (fun h1 => ?_) (fun h1 => ?_)
 ·simp at h1;refine rC (cmd_Check c) ?_;refine rN ?_;refine brA_split (fun h2 => ?_) (fun h2 => ?_)
  ·simp at h2;obtain ⟨s1, s2, s3⟩ := hsm.out h1;have hc := hcl.out h2;have hparts := hid (checkHand_parts h1);refine rN ?_;refine brA_split (fun h3 => ?_) (fun h3 => ?_)
   ·obtain rfl : r = (S.Hand.zero, 6) := by rw [<- hr.out]; simp [h1, h2, h3]
    refine rN ?_;exact ends_ag outL rfl
   refine rN ?_;refine brA_split (fun h4 => ?_) (fun h4 => ?_)
   ·obtain rfl : r = (S.Hand.zero, 2) := by rw [<- hr.out]; simp at h4; simp [h1, h2, h3, h4]
    refine rN ?_;exact ends_ag outL rfl
   obtain rfl : r = (⟨h.seq + 1, true, c, h.got⟩, 0) := by rw [<- hr.out]; simp at h4; simp [h1, h2, h3, h4]
   have hw : IntKind.i64.wrap (h.seq + 1) = h.seq + 1 := wrap_ok (by have := hparts.out.1; omega);clear hr;refine rC (hand_Copy h s1 s2 s3) ?_;refine rC (cmd_Copy c (by omega)) ?_;refine rS hw ?_;exact ends_ag outL rfl
  ·obtain rfl : r = (S.Hand.zero, S.checkCmd c) := by rw [<- hr.out]; simp at h2; simp [h1, h2]
   refine rN ?_;exact ends_ag outL rfl
 ·obtain rfl : r = (S.Hand.zero, S.checkHand h) := by rw [<- hr.out]; simp at h1; simp [h1]
  refine rN ?_;exact ends_ag outL rfl
theorem hand_Hear (h : S.Hand) (seq : Int) (a : S.Answer) : C Tryz.prog 114 [.agg (handC false h), Int' seq, .agg (ansC false a)] (.tup [.agg (handC true (S.hear h seq a).1), Int' (S.hear h seq a).2]) [] := by
 obtain ⟨r, hr⟩ : ∃ r, S.hear h seq a = r := ⟨_, rfl⟩;rw [hr];unfold S.hear at hr;replace hr := hid hr;have hsm := fun e => small_of_check (h := h) e
 have hcl := fun e => checkAnswer_len (a := a) e
 replace hsm := hid hsm;replace hcl := hid hcl;refine CI Tryz.func114 ?_;refine rC (hand_Check h) ?_;refine rN ?_;refine brA_split (fun h1 => ?_) (fun h1 => ?_)
 ·simp at h1;refine rC (desk_CheckAnswer a) ?_;refine rN ?_;refine brA_split (fun h2 => ?_) (fun h2 => ?_)
  ·simp at h2;obtain ⟨s1, s2, s3⟩ := hsm.out h1;have hc := hcl.out h2;refine rC (hand_Copy h s1 s2 s3) ?_;refine rN ?_;refine brA_split (fun h3 => ?_) (fun h3 => ?_)
   ·obtain rfl : r = (⟨h.seq, false, S.Cmd.zero, h.got ++ [a]⟩, 0) := by rw [<- hr.out]; simp at h3; simp [h1, h2, h3]
    clear hr;have d1 : decide (100000000 < h.got.length) = false := by simp; omega
    have d2 : h.got.length <= 100000000 := by omega
    refine rC (desk_CopyAnswer a (by omega)) ?_;refine rS (aN d1 d2) ?_;exact ends_ag outL rfl
   ·obtain rfl : r = (h, 0) := by rw [<- hr.out]; simp at h3; simp [h1, h2]; intro g1 g2; exact absurd g2 (h3 g1)
    clear hr;refine rN ?_;exact ends_ag outL rfl
  ·obtain rfl : r = (S.Hand.zero, S.checkAnswer a) := by rw [<- hr.out]; simp at h2; simp [h1, h2]
   refine rN ?_;exact ends_ag outL rfl
 ·obtain rfl : r = (S.Hand.zero, S.checkHand h) := by rw [<- hr.out]; simp at h1; simp [h1]
  refine rN ?_;exact ends_ag outL rfl
end Go.Proofs.YtadmfokicjjglaaGreatDoor.E
