/-
  THE ABSTRACT MACHINE (part 13d): what an operation may read and turn: calls, frozen values, and all. Own work.
  THE ABSTRACT MACHINE (part 13e): every operation reads and turns no more than it says. Own work.
  THE ABSTRACT MACHINE (part 13f): a region in whatever order its edges allow. Own work.
  THE ABSTRACT MACHINE (part 13g): a drawn region is as the text's own order. Own work.
  THE ABSTRACT MACHINE (part 14): code, but for loops over functions. Own work.
  THE ABSTRACT MACHINE (part 14b): loops over functions. Own work.
  THE ABSTRACT MACHINE (part 14c): loops over functions: the callee's side and the rounds. Own work.
  THE ABSTRACT MACHINE (part 14d): a round; a loop over a function; all code. Own work.
  THE ABSTRACT MACHINE (part 14e): a loop over a function; all code. Own work.
  THE ABSTRACT MACHINE (part 15): what it says of calls is true. Own work.
-/
import Derived.Test.YtbkifahfbcalaaaZb
import Derived.OrdersIn
import Derived.RangeFuncNested
set_option linter.unusedSimpArgs false
set_option linter.unusedVariables false
namespace Go.Am
section loc

theorem Loc4.ite {c : Prop} [Decidable c] {f g : Heap → Option Q4} (hf : c → Loc4 f) (hg : ¬ c → Loc4 g) : Loc4 fun H => if c then f H else g H := by
  by_cases h : c
  · simp only [h, if_true]; exact hf h
  · simp only [h, if_false]; exact hg h
theorem Loc4.bindc {S : Type} {x : Option S} {f : S → Heap → Option Q4} (h : ∀ s, x = some s → Loc4 (f s)) : Loc4 fun H => x.bind fun s => f s H := by
  cases x with
  | none => exact Loc4.none
  | some s => exact h s rfl
theorem Loc4.put1 (v : AV) (nid : Nat) (x : ABlk) (rd : List Nat) : Loc4 fun H => some4 v (H.put nid x) rd [nid] :=
  Loc4.put (g := fun _ => some (v, nid, x)) (rd := rd) (wr := [nid]) (fun _ _ _ => rfl) (fun _ q e => by cases e; simp)
theorem Loc4.same (v : AV) (rd wr : List Nat) : Loc4 fun H => some4 v H rd wr :=
  Loc4.upd (g := fun _ => some (v, Option.none)) (rd := rd) (wr := wr) (fun _ _ _ => rfl) (fun _ _ q e => by cases e)

/-! ### equality of blocks -/
mutual
theorem AV.beq_eq : ∀ a b : AV, AV.beq a b = true → a = b
  | .undef, b, h => by cases b <;> simp_all [AV.beq]
  | .bool _, b, h => by cases b <;> simp_all [AV.beq]
  | .int _ _, b, h => by cases b <;> simp_all [AV.beq]
  | .str _, b, h => by cases b <;> simp_all [AV.beq]
  | .nilp, b, h => by cases b <;> simp_all [AV.beq]
  | .nils, b, h => by cases b <;> simp_all [AV.beq]
  | .nilm, b, h => by cases b <;> simp_all [AV.beq]
  | .nilf, b, h => by cases b <;> simp_all [AV.beq]
  | .es0, b, h => by cases b <;> simp_all [AV.beq]
  | .en, b, h => by cases b <;> simp_all [AV.beq]
  | .yld, b, h => by cases b <;> simp_all [AV.beq]
  | .hp _ _, b, h => by cases b <;> simp_all [AV.beq]
  | .hs _ _, b, h => by cases b <;> simp_all [AV.beq]
  | .hq _ _ _ _, b, h => by cases b <;> simp_all [AV.beq]
  | .he _ _ _ _, b, h => by cases b <;> simp_all [AV.beq]
  | .hm _, b, h => by cases b <;> simp_all [AV.beq]
  | .agg cs, b, h => by cases b <;> simp only [AV.beq, Bool.false_eq_true] at h; rw [AV.beqL_eq cs _ h]
  | .tup cs, b, h => by cases b <;> simp only [AV.beq, Bool.false_eq_true] at h; rw [AV.beqL_eq cs _ h]
  | .vs cs, b, h => by cases b <;> simp only [AV.beq, Bool.false_eq_true] at h; rw [AV.beqL_eq cs _ h]
  | .ip cs o, b, h => by
    cases b <;> simp only [AV.beq, Bool.false_eq_true, Bool.and_eq_true, beq_iff_eq] at h
    rw [AV.beqL_eq cs _ h.1, h.2]
  | .fm ks us, b, h => by
    cases b <;> simp only [AV.beq, Bool.false_eq_true, Bool.and_eq_true, beq_iff_eq] at h
    rw [AV.beqL_eq ks _ h.1, AV.beqL_eq us _ h.2]
  | .fn f x y, b, h => by
    cases b <;> simp only [AV.beq, Bool.false_eq_true, Bool.and_eq_true, beq_iff_eq] at h
    rw [h.1.1, AV.beqL_eq x _ h.1.2, AV.beqL_eq y _ h.2]
theorem AV.beqL_eq : ∀ a b : List AV, AV.beqL a b = true → a = b
  | [], [], _ => rfl
  | [], _ :: _, h => by simp [AV.beqL] at h
  | _ :: _, [], h => by simp [AV.beqL] at h
  | x :: r, y :: s, h => by
    simp only [AV.beqL, Bool.and_eq_true] at h
    rw [AV.beq_eq x y h.1, AV.beqL_eq r s h.2]
end
theorem ABlk.beq_eq {a b : ABlk} (h : a.beq b = true) : a = b := by
  cases a <;> cases b <;> simp only [ABlk.beq, Bool.false_eq_true, Bool.and_eq_true, beq_iff_eq] at h
  · rw [AV.beqL_eq _ _ h]
  · rw [h.1.1.1, h.1.1.2, h.1.2, AV.beqL_eq _ _ h.2]
  · rw [AV.beqL_eq _ _ h.1, AV.beqL_eq _ _ h.2]

/-! ### what is reached -/
theorem reach_acc {H : Heap} : ∀ (k : Nat) (todo acc : List Nat) (b : Nat), b ∈ acc → b ∈ reach H k todo acc
  | 0, _, acc, b, h => by simp only [reach]; simpa using h
  | k + 1, [], acc, b, h => by simp only [reach]; simpa using h
  | k + 1, c :: todo, acc, b, h => by
    simp only [reach]
    split
    · exact reach_acc k _ _ b h
    · split
      · exact reach_acc k _ _ b (by simp [h])
      · exact reach_acc k _ _ b (by simp [h])
theorem reach_congr {H H2 : Heap} : ∀ (k : Nat) (todo acc : List Nat), (∀ b, b ∈ reach H k todo acc → H2.get b = H.get b) → reach H2 k todo acc = reach H k todo acc
  | 0, _, acc, _ => by simp only [reach]
  | k + 1, [], acc, _ => by simp only [reach]
  | k + 1, c :: todo, acc, h => by
    simp only [reach] at h ⊢
    split at h
    · rename_i hc; simp only [if_pos hc]; exact reach_congr k _ _ h
    · rename_i hc
      simp only [if_neg hc]
      split at h
      · rename_i hg
        have := h c (reach_acc k _ _ c (by simp))
        simp only [this, hg]
        exact reach_congr k _ _ h
      · rename_i x hg
        have := h c (reach_acc k _ _ c (by simp))
        simp only [this, hg]
        exact reach_congr k _ _ h
theorem touched_congr {H H2 : Heap} {roots : List AV} (h : ∀ b, b ∈ touched H roots → H2.get b = H.get b) : touched H2 roots = touched H roots := reach_congr _ _ _ h
theorem reached_congr {H H2 : Heap} {roots : List AV} (h : ∀ b, b ∈ touched H roots → H2.get b = H.get b) : reached H2 roots = reached H roots := by
  unfold reached
  rw [touched_congr h]
  exact List.filter_congr fun b hb => by rw [h b hb]
theorem mem_touched {H : Heap} {roots : List AV} {b : Nat} (h : b ∈ reached H roots) : b ∈ touched H roots := (List.mem_filter.1 h).1
theorem idxOf_mem {l : List Nat} {b i : Nat} (h : l.idxOf? b = some i) : b ∈ l := List.mem_of_getElem? (idxOf_some h)
theorem toIdx_congr {H H2 : Heap} {order : List Nat} {h : Nat → Nat → Nat} (hs : ∀ b, b ∈ order → H2.get b = H.get b) : toIdx H2 order h = toIdx H order h := by
  funext b g
  unfold toIdx
  cases hi : order.idxOf? b with
  | none => rfl
  | some i => rw [hs b (idxOf_mem hi)]
theorem pack_congr {H H2 : Heap} {order : List Nat} {h : Nat → Nat → Nat} (hs : ∀ b, b ∈ order → H2.get b = H.get b) : pack H2 order h = pack H order h := by
  unfold pack
  rw [toIdx_congr hs]
  have : ∀ l : List Nat, (∀ b, b ∈ l → H2.get b = H.get b) → (l.filterMap fun b => (H2.get b).map (·.ren (toIdx H order h) (h b))) = l.filterMap fun b => (H.get b).map (·.ren (toIdx H order h) (h b)) := by
    intro l hl
    induction l with
    | nil => rfl
    | cons a r ih => rw [List.filterMap_cons, List.filterMap_cons, hl a (by simp), ih fun b hb => hl b (by simp [hb])]
  exact this order hs
theorem packOk_congr {H H2 : Heap} {order : List Nat} {h : Nat → Nat → Nat} (hs : ∀ b, b ∈ order → H2.get b = H.get b) : packOk H2 order h = packOk H order h := by
  unfold packOk; rw [pack_congr hs]
theorem genOf_congr {H H2 : Heap} {b : Nat} (h : H2.get b = H.get b) : genOf H2 b = genOf H b := by unfold genOf; rw [h]
theorem backMap_congr {H H2 : Heap} {order : List Nat} {nid : Nat} (hs : ∀ b, b ∈ order → H2.get b = H.get b) : backMap H2 order nid = backMap H order nid := by
  funext b g
  unfold backMap
  cases ho : order[b]? with
  | none => rfl
  | some o => simp only [genOf_congr (hs o (List.mem_of_getElem? ho))]
theorem gmap_congr {H H2 : Heap} {order : List Nat} (hs : ∀ b, b ∈ order → H2.get b = H.get b) : gmap H2 order = gmap H order := by
  funext b g
  unfold gmap
  cases ho : order[b]? with
  | none => rfl
  | some o => simp only [genOf_congr (hs o (List.mem_of_getElem? ho))]
theorem putAll_congr {H H2 : Heap} {order : List Nat} {nid : Nat} (hs : ∀ b, b ∈ order → H2.get b = H.get b) : ∀ (l : List ABlk) (i : Nat) (A : Heap), putAll H2 order nid l i A = putAll H order nid l i A
  | [], _, _ => rfl
  | x :: r, i, A => by rw [putAll_cons, putAll_cons, backMap_congr hs, gmap_congr hs]; exact putAll_congr hs r _ _
theorem putAll_same {H : Heap} {order : List Nat} {nid b : Nat} : ∀ (l : List ABlk) (i : Nat) (A A2 : Heap), (∃ j, i ≤ j ∧ j < i + l.length ∧ tgt order nid j = b) ∨ A2.get b = A.get b → (putAll H order nid l i A2).get b = (putAll H order nid l i A).get b
  | [], i, A, A2, h => by
    rcases h with ⟨j, h1, h2, _⟩ | h
    · simp at h2; omega
    · exact h
  | x :: r, i, A, A2, h => by
    rw [putAll_cons, putAll_cons]
    refine putAll_same r (i + 1) _ _ ?_
    by_cases hi : b = tgt order nid i
    · right; rw [get_put, get_put, if_pos hi, if_pos hi]
    · rcases h with ⟨j, h1, h2, h3⟩ | h
      · left
        refine ⟨j, ?_, ?_, h3⟩
        · rcases Nat.eq_or_lt_of_le h1 with rfl | q
          · exact absurd h3.symm hi
          · exact q
        · simp only [List.length_cons] at h2; omega
      · right; rw [get_put, get_put, if_neg hi, if_neg hi]; exact h

theorem turned_congr {H H2 H' H2' : Heap} {order : List Nat} (h : ∀ b, b ∈ order → H2.get b = H.get b) (h' : ∀ b, b ∈ order → H2'.get b = H'.get b) : turned H2 H2' order = turned H H' order := by
  unfold turned
  exact List.filter_congr fun b hb => by rw [h b hb, h' b hb]
theorem not_turned {H H' : Heap} {order : List Nat} {b : Nat} (hb : b ∈ order) (h : b ∉ turned H H' order) : H'.get b = H.get b := by
  unfold turned at h
  rw [List.mem_filter] at h
  have h : ¬ (match H.get b, H'.get b with | some x, some y => !x.beq y | _, _ => true) = true := fun q => h ⟨hb, q⟩
  cases h1 : H.get b with
  | none => rw [h1] at h; simp at h
  | some x =>
    cases h2 : H'.get b with
    | none => rw [h1, h2] at h; simp at h
    | some y =>
      rw [h1, h2] at h
      simp only [Bool.not_eq_true, Bool.not_eq_false'] at h
      rw [ABlk.beq_eq h]

/-! ### calls -/
/-- blocks laid, over the same order -/
theorem putAll_loc {H H2 : Heap} {order : List Nat} {nid : Nat} {L : List ABlk} {rd wr : List Nat} (hwr : wr = turned H (putAll H order nid L 0 H) order ++ List.range' nid (L.length - order.length)) (hrd : ∀ b, b ∈ order → b ∈ rd) (hlen : order.length ≤ L.length)
    (hs : ∀ b, b ∈ rd ∨ b ∈ wr → H2.get b = H.get b) :
    (∀ b, b ∉ wr → (putAll H order nid L 0 H).get b = H.get b) ∧ (∀ b, b ∈ wr → (putAll H2 order nid L 0 H2).get b = (putAll H order nid L 0 H).get b) ∧ (∀ b, b ∉ wr → (putAll H2 order nid L 0 H2).get b = H2.get b) ∧
    turned H2 (putAll H2 order nid L 0 H2) order = turned H (putAll H order nid L 0 H) order := by
  have ho : ∀ b, b ∈ order → H2.get b = H.get b := fun b hb => hs b (.inl (hrd b hb))
  have hmiss : ∀ b, b ∉ order → b ∉ wr → ∀ j, 0 ≤ j → j < 0 + L.length → tgt order nid j ≠ b := by
    intro b hb hw j _ hj e
    unfold tgt at e
    cases hoj : order[j]? with
    | some o => rw [hoj] at e; simp only at e; subst e; exact hb (List.mem_of_getElem? hoj)
    | none =>
      rw [hoj] at e; simp only at e
      rw [List.getElem?_eq_none_iff] at hoj
      apply hw
      rw [hwr, List.mem_append]
      right
      rw [List.mem_range'_1]
      omega
  have hsame : ∀ b, b ∈ order ∨ b ∈ wr → (putAll H2 order nid L 0 H2).get b = (putAll H order nid L 0 H).get b := by
    intro b hb
    rw [putAll_congr ho]
    exact putAll_same L 0 H H2 (.inr (hs b (hb.imp (hrd b) id)))
  refine ⟨fun b hb => ?_, fun b hb => hsame b (.inr hb), fun b hb => ?_, turned_congr ho fun b hb => hsame b (.inl hb)⟩
  · by_cases hbo : b ∈ order
    · refine not_turned hbo fun q => hb ?_
      rw [hwr, List.mem_append]; exact .inl q
    · exact putAll_miss (hmiss b hbo hb)
  · by_cases hbo : b ∈ order
    · rw [hsame b (.inl hbo), ho b hbo]
      refine not_turned hbo fun q => hb ?_
      rw [hwr, List.mem_append]; exact .inl q
    · exact putAll_miss (hmiss b hbo hb)

theorem putAll_loc0 {H H2 : Heap} {nid : Nat} {L : List ABlk} (hs : ∀ b, b ∈ List.range' nid L.length → H2.get b = H.get b) :
    (∀ b, b ∉ List.range' nid L.length → (putAll H [] nid L 0 H).get b = H.get b) ∧ (∀ b, b ∈ List.range' nid L.length → (putAll H2 [] nid L 0 H2).get b = (putAll H [] nid L 0 H).get b) ∧ (∀ b, b ∉ List.range' nid L.length → (putAll H2 [] nid L 0 H2).get b = H2.get b) := by
  have := putAll_loc (H := H) (H2 := H2) (order := []) (nid := nid) (L := L) (rd := []) (wr := List.range' nid L.length) (by simp [turned]) (by simp) (by simp) (fun b hb => hs b (by simpa using hb))
  exact ⟨this.1, this.2.1, this.2.2.1⟩

theorem borrow_congr {H H2 : Heap} {args : List AV} (hs : ∀ b, b ∈ AV.refsL args → H2.get b = H.get b) : args.map (borrow1 H2) = args.map (borrow1 H) := by
  apply List.map_congr_left
  intro a ha
  have hin : ∀ b, b ∈ a.refs → b ∈ AV.refsL args := by
    intro b hb
    clear hs
    induction args with
    | nil => simp at ha
    | cons x r ih =>
      simp only [AV.refsL, List.mem_append]
      simp only [List.mem_cons] at ha
      rcases ha with rfl | ha
      · exact .inl hb
      · exact .inr (ih ha)
  cases a with
  | hs b g => simp only [borrow1]; rw [hs b (hin b (by simp [AV.refs]))]
  | hq b g o n => simp only [borrow1]; rw [hs b (hin b (by simp [AV.refs]))]
  | _ => rfl
theorem borrow_none {H : Heap} {args : List AV} (h : args.any isRow = false) : args.map (borrow1 H) = args := by
  rw [List.any_eq_false] at h
  have : ∀ l : List AV, (∀ a ∈ l, ¬ isRow a = true) → l.map (borrow1 H) = l := by
    intro l
    induction l with
    | nil => intro _; rfl
    | cons a r ih =>
      intro hl
      rw [List.map_cons, ih fun b hb => hl b (by simp [hb])]
      have := hl a (by simp)
      congr 1
      cases a <;> first | rfl | (simp [isRow] at this)
  exact this args h

/-- the arguments as they are handed over are the same -/
theorem pCall_args {H H2 : Heap} {fl : Nat} {args0 : List AV} (hs : (fl ≠ 4 && args0.any isRow) = true → ∀ b, b ∈ AV.refsL args0 → H2.get b = H.get b) :
    (if fl = 4 then args0 else args0.map (borrow1 H2)) = if fl = 4 then args0 else args0.map (borrow1 H) := by
  by_cases h4 : fl = 4
  · simp [h4]
  · rw [if_neg h4, if_neg h4]
    cases hr : args0.any isRow with
    | false => rw [borrow_none hr, borrow_none hr]
    | true => exact borrow_congr (hs (by simp [h4, hr]))

theorem pCall_loc (call : CallFn) (fl : Nat) (f : FuncId) (args0 : List AV) (nid : Nat) : Loc4 fun H => (pCall call fl f args0 H nid).bind fun r => some4 r.1 r.2.1 r.2.2.1 r.2.2.2 := by
  intro H v H' rd wr e
  obtain ⟨⟨v1, H1, rd1, wr1⟩, hc, e⟩ := Option.bind_eq_some_iff.1 e
  simp only [some4, Option.some.injEq, Prod.mk.injEq] at e
  obtain ⟨rfl, rfl, rfl, rfl⟩ := e
  unfold pCall at hc
  simp only at hc
  generalize hav : (if fl = 4 then args0 else args0.map (borrow1 H)) = av at hc
  by_cases hfr : AV.refFreeL av = true
  · rw [if_pos hfr] at hc
    obtain ⟨⟨r1, r2⟩, hr, hc⟩ := Option.bind_eq_some_iff.1 hc
    simp only at hc
    by_cases hrow : (decide (fl ≠ 4) && args0.any isRow) = true
    · rw [if_pos hrow] at hc
      split at hc
      · rename_i hcond
        cases hc
        have key := fun H2 hs => putAll_loc0 (H := H) (H2 := H2) (nid := nid) (L := r2) hs
        refine ⟨(key H fun _ _ => rfl).1, putAll_outer, fun H2 hs => ?_⟩
        obtain ⟨k1, k2, k3⟩ := key H2 fun b hb => hs b (.inr hb)
        refine ⟨putAll H2 [] nid r2 0 H2, ?_, k2, k3, putAll_outer⟩
        show (pCall call fl f args0 H2 nid).bind _ = _
        unfold pCall
        simp only
        rw [pCall_args (H := H) (H2 := H2) (fun _ b hb => hs b (.inl hb)), hav, if_pos hfr, hr]
        simp only [Option.bind_some]
        rw [if_pos hrow, if_pos hcond]
        simp only [Option.bind_some, some4]
        rw [backMap_congr (H := H) (H2 := H2) (order := []) (by simp)]
      · cases hc
    · rw [if_neg hrow] at hc
      split at hc
      · rename_i hemp
        split at hc
        · rename_i hrf
          cases hc
          refine ⟨fun _ _ => rfl, rfl, fun H2 hs => ⟨H2, ?_, fun b hb => by simp at hb, fun _ _ => rfl, rfl⟩⟩
          show (pCall call fl f args0 H2 nid).bind _ = _
          unfold pCall
          simp only
          rw [pCall_args (H := H) (H2 := H2) (fun q => absurd q hrow), hav, if_pos hfr, hr]
          simp only [Option.bind_some]
          rw [if_neg hrow, if_pos hemp, if_pos hrf]
          rfl
        · cases hc
      · rename_i hemp
        split at hc
        · rename_i hL
          cases hc
          have key := fun H2 hs => putAll_loc0 (H := H) (H2 := H2) (nid := nid) (L := r2) hs
          refine ⟨(key H fun _ _ => rfl).1, putAll_outer, fun H2 hs => ?_⟩
          obtain ⟨k1, k2, k3⟩ := key H2 fun b hb => hs b (.inr hb)
          refine ⟨putAll H2 [] nid r2 0 H2, ?_, k2, k3, putAll_outer⟩
          show (pCall call fl f args0 H2 nid).bind _ = _
          unfold pCall
          simp only
          rw [pCall_args (H := H) (H2 := H2) (fun q => absurd q hrow), hav, if_pos hfr, hr]
          simp only [Option.bind_some]
          rw [if_neg hrow, if_neg hemp, if_pos hL]
          simp only [Option.bind_some, some4]
          rw [backMap_congr (H := H) (H2 := H2) (order := []) (by simp)]
        · cases hc
  · rw [if_neg hfr] at hc
    split at hc
    · cases hc
    · rename_i hrow
      obtain ⟨⟨r1, r2⟩, hr, hc⟩ := Option.bind_eq_some_iff.1 hc
      split at hc
      · rename_i hcond
        cases hc
        have hcond' := hcond
        simp only [Bool.and_eq_true, decide_eq_true_eq] at hcond'
        have key := fun H2 hs => putAll_loc (H := H) (H2 := H2) (order := reached H av) (nid := nid) (L := r2) (rd := touched H av) rfl (fun b hb => mem_touched hb) hcond'.1.1 hs
        refine ⟨(key H fun _ _ => rfl).1, putAll_outer, fun H2 hs => ?_⟩
        obtain ⟨k1, k2, k3, k4⟩ := key H2 hs
        have ht : ∀ b, b ∈ touched H av → H2.get b = H.get b := fun b hb => hs b (.inl hb)
        have ho : ∀ b, b ∈ reached H av → H2.get b = H.get b := fun b hb => ht b (mem_touched hb)
        refine ⟨putAll H2 (reached H av) nid r2 0 H2, ?_, k2, k3, putAll_outer⟩
        show (pCall call fl f args0 H2 nid).bind _ = _
        unfold pCall
        simp only
        rw [pCall_args (H := H) (H2 := H2) (fun q => absurd (by simpa [and_comm] using q) hrow), hav, if_neg hfr, if_neg hrow, reached_congr ht, toIdx_congr ho, pack_congr ho, hr]
        simp only [Option.bind_some]
        rw [packOk_congr ho, if_pos hcond, k4, touched_congr ht, backMap_congr ho]
        rfl
      · cases hc

/-! ### frozen values -/
theorem frz_congr {H H2 : Heap} {nL : Nat} {Z : List Nat} (hs : ∀ b, Z.contains b = true → H2.get b = H.get b) : ∀ (n : Nat) (v : AV), frz n nL Z H2 v = frz n nL Z H v
  | 0, v => by simp only [frz]
  | n + 1, v => by
    have ih : frz n nL Z H2 = frz n nL Z H := funext (frz_congr hs n)
    simp only [frz]
    split
    · rfl
    · have hz : ∀ b, ¬ (!Z.contains b) = true → H2.get b = H.get b := fun b hb => hs b (by simpa using hb)
      cases v <;> simp only [ih]
      case hs b g => split <;> (try rfl); split <;> (try rfl); rename_i q; rw [hz _ q]
      case hp b g => split <;> (try rfl); split <;> (try rfl); rename_i q; rw [hz _ q]
      case hm b => split <;> (try rfl); split <;> (try rfl); rename_i q; rw [hz _ q]
      case hq b g o m =>
        split
        · rfl
        · rename_i q
          rw [hz _ fun q2 => q (by rw [q2]; simp)]
theorem pFrz_loc {f : Heap → Option Q4} (hf : Loc4 f) : Loc4 fun H => (f H).bind fun q => some4 (pFrz 0 q.1 q.2.1).1 (pFrz 0 q.1 q.2.1).2 q.2.2.1 (q.2.2.2 ++ touched q.2.1 [q.1]) := by
  intro H v H' rd wr e
  obtain ⟨⟨v1, H1, rd1, wr1⟩, hc, e⟩ := Option.bind_eq_some_iff.1 e
  simp only [some4, Option.some.injEq, Prod.mk.injEq] at e
  obtain ⟨rfl, rfl, rfl, rfl⟩ := e
  obtain ⟨h1, h2, h3⟩ := hf H v1 H1 rd1 wr1 hc
  have hother : ∀ (X : Heap) b, b ∉ touched X [v1] → (pFrz 0 v1 X).2.get b = X.get b := by
    intro X b hb
    unfold pFrz
    split
    · rfl
    · rw [get_drop, if_neg]
      intro q
      simp only [List.contains_eq_mem, decide_eq_true_eq, List.mem_filter] at q
      exact hb (mem_touched q.1)
  refine ⟨fun b hb => ?_, ?_, fun H2 hs => ?_⟩
  · rw [List.mem_append, not_or] at hb
    rw [hother H1 b hb.2]; exact h1 b hb.1
  · rw [← h2]; unfold pFrz; split <;> rfl
  · obtain ⟨H2', k1, k2, k3, k4⟩ := h3 H2 fun b hb => hs b (hb.imp id fun q => List.mem_append_left _ q)
    have hag : ∀ b, b ∈ wr1 ∨ b ∈ touched H1 [v1] → H2'.get b = H1.get b := by
      intro b hb
      by_cases hw : b ∈ wr1
      · exact k2 b hw
      · rcases hb with hb | hb
        · exact absurd hb hw
        · rw [k3 b hw, h1 b hw]
          exact hs b (.inr (List.mem_append_right _ hb))
    have ht : touched H2' [v1] = touched H1 [v1] := touched_congr fun b hb => hag b (.inr hb)
    have hr : reached H2' [v1] = reached H1 [v1] := reached_congr fun b hb => hag b (.inr hb)
    have hz : ∀ b, b ∈ wr1 ∨ b ∈ touched H1 [v1] → (pFrz 0 v1 H2').2.get b = (pFrz 0 v1 H1).2.get b := by
      intro b hb
      unfold pFrz
      split
      · exact hag b hb
      · rw [get_drop, get_drop, hr, hag b hb]
    have hv : (pFrz 0 v1 H2').1 = (pFrz 0 v1 H1).1 := by
      unfold pFrz
      split
      · rfl
      · rw [hr]
        refine frz_congr (fun b hb => hag b (.inr ?_)) 12 v1
        simp only [List.contains_eq_mem, decide_eq_true_eq, List.mem_filter] at hb
        exact mem_touched hb.1
    refine ⟨(pFrz 0 v1 H2').2, ?_, fun b hb => ?_, fun b hb => ?_, ?_⟩
    · simp only [k1, Option.bind_some, some4]; rw [hv, ht]
    · exact hz b (by simpa using hb)
    · rw [List.mem_append, not_or] at hb
      rw [hother H2' b (by rw [ht]; exact hb.2)]; exact k3 b hb.1
    · rw [← k4]; unfold pFrz; split <;> rfl
end loc
end Go.Am
namespace Go.Am
section loc

theorem astep0_congr {R : Type} {cx : Cx} {fl : Nat} {o : Oper} {ρ ρ' : Operand → AV} {nid : Nat} {H : Heap} {K : AV → Heap → List Nat → List Nat → Option R} (h : ∀ x ∈ o.op.operands, ρ x = ρ' x) :
    astep0 cx fl o ρ nid H K = astep0 cx fl o ρ' nid H K := by
  obtain ⟨dst, op, type, pos, after, guard⟩ := o
  have pairs : ∀ ps : List (Nat × Operand), (∀ x ∈ ps.map (·.2), ρ x = ρ' x) → (ps.map fun q => (q.1, ρ q.2)) = (ps.map fun q => (q.1, ρ' q.2)) := fun ps hp =>
    List.map_congr_left fun p hm => by simp only [hp p.2 (List.mem_map.2 ⟨p, hm, rfl⟩)]
  have plain : ∀ ps : List Operand, (∀ x ∈ ps, ρ x = ρ' x) → ps.map ρ = ps.map ρ' := fun ps hp => List.map_congr_left hp
  cases op <;> simp only [Op.operands] at h <;> simp only [astep0]
  case build t ps => rw [pairs ps.toList fun x hx => h x (by simpa using hx)]
  case buildSlice t n ps => rw [pairs ps.toList fun x hx => h x (by simpa using hx)]
  case makeFunc fn first captured =>
    cases fn with
    | func f => simp only [plain first.toList fun x hx => h x (by simp [Array.mem_toList_iff.1 hx]), plain captured.toList fun x hx => h x (by simp [Array.mem_toList_iff.1 hx])]
    | _ => rfl
  case slice t x lo hi mx => cases lo <;> cases hi <;> cases mx <;> simp_all
  case makeMap t r => cases r <;> rfl
  case call c =>
    have hargs : c.args.toList.map ρ = c.args.toList.map ρ' := plain _ fun x hx => h x (by simp [Call.operands, Array.mem_toList_iff.1 hx])
    cases hc : c.callee with
    | value f =>
      have hf : ρ f = ρ' f := h f (by simp [Call.operands, hc])
      simp only [hargs, hf]
    | invoke r m => rfl
    | builtin b =>
      have h2 : ∀ x ∈ c.args.toList, ρ x = ρ' x := fun x hx => h x (by simp [Call.operands, Array.mem_toList_iff.1 hx])
      generalize c.args.toList = l at h2
      generalize c.argTypes.toList = l2
      rcases l with _ | ⟨a, _ | ⟨b', _ | ⟨d, r⟩⟩⟩
      · cases b <;> rcases l2 with _ | ⟨t, _ | ⟨u, _ | ⟨u2, l3⟩⟩⟩ <;> rfl
      · have e1 := h2 a (by simp)
        cases b <;> rcases l2 with _ | ⟨t, _ | ⟨u, _ | ⟨u2, l3⟩⟩⟩ <;> first | rfl | (simp only [e1])
      · have e1 := h2 a (by simp)
        have e2 := h2 b' (by simp)
        cases b <;> rcases l2 with _ | ⟨t, _ | ⟨u, _ | ⟨u2, l3⟩⟩⟩ <;> first | rfl | (simp only [e1, e2])
      · have e1 := h2 a (by simp)
        have e2 := h2 b' (by simp)
        have e3 := h2 d (by simp)
        cases r <;> cases b <;> rcases l2 with _ | ⟨t, _ | ⟨u, _ | ⟨u2, l3⟩⟩⟩ <;> first | rfl | (simp only [e1, e2, e3])
  all_goals (first | rfl | (simp_all; done))

theorem astep_congr {R : Type} {cx : Cx} {fl : Nat} {o : Oper} {ρ ρ' : Operand → AV} {nid : Nat} {H : Heap} {K : AV → Heap → List Nat → List Nat → Option R} (h : ∀ x ∈ o.op.operands, ρ x = ρ' x) :
    astep cx fl o ρ nid H K = astep cx fl o ρ' nid H K := by
  unfold astep
  split
  · exact astep0_congr h
  · exact astep0_congr h

theorem astep0_loc {cx : Cx} (hy : cx.yield = none) (fl : Nat) (o : Oper) (ρ : Operand → AV) (nid : Nat) : Loc4 fun H => astep0 cx fl o ρ nid H some4 := by
  obtain ⟨dst, op, type, pos, after, guard⟩ := o
  have self : ∀ {x : AV} {H H2 : Heap}, (∀ b, b ∈ rdOf x → H2.get b = H.get b) → Same x H H2 := fun h b hb => h b hb
  cases op <;> simp only [astep0]
  case move x =>
    split
    · have : (fun H => (accOf cx.P type (ρ x) nid H).bind fun q => some4 q.1 q.2 [] [nid]) = fun H => ((match ρ x with | .nils => (match cx.P.underlying type with | some (.slice e) => (size? cx.P e).bind fun sz => if sz = 0 then none else some sz | _ => none) | _ => none) : Option Nat).bind fun sz => some4 (.hs nid 0) (H.put nid (.sl 0 sz true [])) [] [nid] := by
          funext H
          unfold accOf
          cases ρ x <;> (try rfl)
          simp only
          cases cx.P.underlying type with
          | none => rfl
          | some d =>
            cases d <;> (try rfl)
            rename_i e
            simp only
            cases size? cx.P e with
            | none => rfl
            | some sz => simp only [Option.bind_some]; split <;> rfl
      rw [this]
      exact Loc4.bindc fun sz _ => Loc4.put1 _ _ _ _
    · exact Loc4.val _ _
  case assign x =>
    split
    · have : (fun H => (accOf cx.P type (ρ x) nid H).bind fun q => some4 q.1 q.2 [] [nid]) = fun H => ((match ρ x with | .nils => (match cx.P.underlying type with | some (.slice e) => (size? cx.P e).bind fun sz => if sz = 0 then none else some sz | _ => none) | _ => none) : Option Nat).bind fun sz => some4 (.hs nid 0) (H.put nid (.sl 0 sz true [])) [] [nid] := by
          funext H
          unfold accOf
          cases ρ x <;> (try rfl)
          simp only
          cases cx.P.underlying type with
          | none => rfl
          | some d =>
            cases d <;> (try rfl)
            rename_i e
            simp only
            cases size? cx.P e with
            | none => rfl
            | some sz => simp only [Option.bind_some]; split <;> rfl
      rw [this]
      exact Loc4.bindc fun sz _ => Loc4.put1 _ _ _ _
    · exact Loc4.val _ _
  case pick c a b => exact Loc4.pure fun _ _ _ => rfl
  case nilCheck x => exact Loc4.pure fun H H2 h => pNil_same (self h)
  case binOp op t x y _ => exact Loc4.pure fun H H2 h => pBin_same (self h)
  case unOp op _ x => exact Loc4.pure fun _ _ _ => rfl
  case convert s d x => exact Loc4.pure fun _ _ _ => rfl
  case fieldAddr s x f => exact Loc4.pure fun H H2 h => pFieldAddr_same (self h)
  case field t x f => exact Loc4.pure fun _ _ _ => rfl
  case indexAddr t x i => exact Loc4.pure fun H H2 h => pIndexAddr_same (self h)
  case index t x i => exact Loc4.pure fun _ _ _ => rfl
  case slice t x lo hi mx => exact Loc4.pure fun H H2 h => pSlice_same (self h)
  case extract x i => exact Loc4.pure fun _ _ _ => rfl
  case makeFunc fn first cap =>
    cases fn with
    | func f => exact Loc4.val _ _
    | _ => exact Loc4.none
  case build t parts => exact Loc4.pure fun _ _ _ => rfl
  case buildSlice t len parts =>
    refine Loc4.bindc fun q _ => ?_
    unfold pRow
    split
    · exact Loc4.same _ _ _
    · exact Loc4.put1 _ _ _ _
  case box t x =>
    refine Loc4.ite (fun _ => ?_) (fun _ => Loc4.none)
    unfold pBox
    split
    · exact Loc4.same _ _ _
    · exact Loc4.put1 _ _ _ _
  case alloc t =>
    refine Loc4.bindc fun z _ => ?_
    split
    · exact Loc4.put1 _ _ _ _
    · exact Loc4.bindc fun cs _ => Loc4.val _ _
  case makeSlice t l c =>
    refine Loc4.bindc fun q _ => ?_
    split
    · exact Loc4.put1 _ _ _ _
    · exact Loc4.val _ _
  case makeMap t r =>
    cases r with
    | none => exact Loc4.put1 _ _ _ _
    | some _ => exact Loc4.none
  case load t a => exact Loc4.pure fun H H2 h => pLoad_same (self h)
  case store t a x => exact pStore_loc _ _ _ _
  case lookup t m k ok => exact Loc4.pure fun H H2 h => pLookup_same (self h)
  case mapUpdate t m k x => exact pMapUpdate_loc _ _ _ _ _
  case insert t m k x => exact pMapUpdate_loc _ _ _ _ _
  case call c =>
    cases hc : c.callee with
    | invoke r m => exact Loc4.none
    | value f =>
      simp only
      split
      · have : (fun H => (pYield cx.yield (c.args.toList.map ρ) H).bind fun r => some4 r.1 r.2 [outerId] [outerId]) = fun _ => none := by
          funext H; rw [hy]; rfl
        rw [this]; exact Loc4.none
      · exact Loc4.bindc fun q _ => pCall_loc _ _ _ _ _
    | builtin b =>
      cases b <;> simp only
      all_goals first
        | exact Loc4.none
        | skip
      all_goals
        split
        · first
          | exact Loc4.pure fun H H2 h => pLen_same (self h)
          | exact pAppend_loc _ _ _ _ _ _
          | exact pCopy_loc _ _ _ _
          | exact Loc4.pure fun _ _ _ => rfl
          | exact Loc4.bindc fun _ _ => Loc4.pure fun _ _ _ => rfl
        · first
          | exact Loc4.none
          | exact Loc4.bindc fun _ _ => Loc4.pure fun _ _ _ => rfl
          | skip
      all_goals (try split)
      all_goals first
        | exact Loc4.none
        | exact Loc4.bindc fun _ _ => Loc4.pure fun _ _ _ => rfl
  all_goals exact Loc4.none

theorem astep_loc {cx : Cx} (hy : cx.yield = none) (fl : Nat) (o : Oper) (ρ : Operand → AV) (nid : Nat) : Loc4 fun H => astep cx fl o ρ nid H some4 := by
  unfold astep
  split
  · have : (fun H => astep0 cx 3 o ρ nid H fun v H' rd wr => some4 (pFrz 0 v H').1 (pFrz 0 v H').2 rd (wr ++ touched H' [v])) =
        fun H => (astep0 cx 3 o ρ nid H some4).bind fun q => some4 (pFrz 0 q.1 q.2.1).1 (pFrz 0 q.1 q.2.1).2 q.2.2.1 (q.2.2.2 ++ touched q.2.1 [q.1]) := by
      funext H
      exact astep0_bind cx 3 o ρ nid H _
    rw [this]
    exact pFrz_loc (astep0_loc hy _ _ _ _)
  · exact astep0_loc hy _ _ _ _
end loc
end Go.Am
namespace Go.Am
section draw

/-! ### edges -/
theorem force_eq {S : Type} (n : Nat) (k : Nat → S) : force n k = k n := by cases n <;> rfl
theorem befGo_spec : ∀ (l : List Oper) (acc : List Nat), ∃ r, befGo l acc = acc ++ r ∧ r.length = l.length ∧ ∀ i o, l[i]? = some o → r[i]? = some (befAt (acc ++ r.take i) o)
  | [], acc => ⟨[], by simp [befGo], rfl, by simp⟩
  | o :: l, acc => by
    obtain ⟨r, h1, h2, h3⟩ := befGo_spec l (acc ++ [befAt acc o])
    refine ⟨befAt acc o :: r, by rw [befGo, force_eq, h1]; simp, by simp [h2], fun i o' hi => ?_⟩
    cases i with
    | zero => simp at hi; subst hi; simp
    | succ i =>
      have := h3 i o' (by simpa using hi)
      simpa using this
theorem bit_fold {acc : List Nat} {j : Nat} : ∀ (es : List Edge) (s : Nat), (es.foldl (fun s e => if Region.binds .any e then s ||| (2 ^ e.on ||| acc.getD e.on 0) else s) s).testBit j = true →
    s.testBit j = true ∨ ∃ e ∈ es, Region.binds .any e = true ∧ (e.on = j ∨ (acc.getD e.on 0).testBit j = true)
  | [], s, h => .inl h
  | e :: es, s, h => by
    rw [List.foldl_cons] at h
    rcases bit_fold es _ h with h | ⟨e', he, hb⟩
    · split at h
      · rename_i hbi
        rw [Nat.testBit_or, Nat.testBit_or] at h
        simp only [Bool.or_eq_true] at h
        rcases h with h | h | h
        · exact .inl h
        · rw [Nat.testBit_two_pow] at h
          exact .inr ⟨e, by simp, hbi, .inl (by simpa using h)⟩
        · exact .inr ⟨e, by simp, hbi, .inr h⟩
      · exact .inl h
    · exact .inr ⟨e', by simp [he], hb⟩
/-- what stands ahead is behind a chain of edges -/
theorem befs_closed {ops : Array Oper} {D : Nat → Prop} (hback : ∀ i o, ops[i]? = some o → ∀ e ∈ o.after.toList, Region.binds .any e = true → e.on < i)
    (hcl : ∀ i o, D i → ops[i]? = some o → ∀ e ∈ o.after.toList, Region.binds .any e = true → D e.on) :
    ∀ (i : Nat) (o : Oper), ops[i]? = some o → (∀ e ∈ o.after.toList, Region.binds .any e = true → D e.on) → ∀ j, ((befs ops).getD i 0).testBit j = true → D j := by
  intro i
  induction i using Nat.strongRecOn with
  | ind i ih =>
    intro o ho hD j hj
    obtain ⟨r, h1, h2, h3⟩ := befGo_spec ops.toList []
    have hb : befs ops = r := by unfold befs; rw [h1]; rfl
    have hr := h3 i o (by rw [Array.getElem?_toList]; exact ho)
    rw [hb, List.getD_eq_getElem?_getD, hr] at hj
    simp only [Option.getD_some, befAt, List.nil_append] at hj
    rcases bit_fold _ _ hj with h | ⟨e, he, hbi, h | h⟩
    · simp at h
    · exact h ▸ hD e he hbi
    · have hlt := hback i o ho e he hbi
      have hil : i < ops.size := (Array.getElem?_eq_some_iff.1 ho).1
      have ho' : ops[e.on]? = some ops[e.on] := Array.getElem?_eq_getElem (by omega)
      refine ih e.on hlt _ ho' (fun e' he' hb' => hcl e.on _ (hD e he hbi) ho' e' he' hb') j ?_
      rw [hb]
      rw [List.getD_eq_getElem?_getD, List.getElem?_take, if_pos hlt] at h
      rw [List.getD_eq_getElem?_getD]; exact h

/-! ### the text's own order -/
theorem aopD_loc {cx : Cx} (hy : cx.yield = none) (fr : List AV) (rid : Nat) (all : List Oper) (nid i : Nat) (o : Oper) (loc : List (Nat × AV)) : Loc4 (aopD cx fr rid all nid i o loc) := by
  have h0 := astep_loc hy (flagOf cx.ann rid i) o (evalA cx.ann.pos fr loc) nid
  unfold aopD
  split
  · exact h0
  · unfold gd
    cases evalA cx.ann.pos fr loc (guardSlot all _) with
    | bool b => exact Loc4.ite (fun _ => h0) (fun _ => Loc4.val _ _)
    | tup l =>
      cases l with
      | nil => exact Loc4.val _ _
      | cons _ _ => exact Loc4.none
    | _ => exact Loc4.none
theorem aopD_congr {cx : Cx} {fr : List AV} {rid : Nat} {all : List Oper} {nid i : Nat} {o : Oper} {loc loc' : List (Nat × AV)} {H : Heap} (h : ∀ x ∈ o.op.operands, evalA cx.ann.pos fr loc x = evalA cx.ann.pos fr loc' x)
    (hg : ∀ j want, o.guard = some (j, want) → evalA cx.ann.pos fr loc (guardSlot all j) = evalA cx.ann.pos fr loc' (guardSlot all j)) : aopD cx fr rid all nid i o loc H = aopD cx fr rid all nid i o loc' H := by
  unfold aopD
  rw [astep_congr h]
  split
  · rfl
  · rename_i j want hgu
    rw [hg j want hgu]

variable (cx : Cx) (fr : List AV) (rid : Nat) (all : List Oper) (base : Nat) (H0 : Heap)
/-- slots and heap ahead of operation i, in the text's order -/
def stC : Nat → List (Nat × AV) × Heap
  | 0 => ([], H0)
  | i + 1 => match all[i]? with
    | none => stC i
    | some o => match aopD cx fr rid all (base + 8 * i) i o (stC i).1 (stC i).2 with
      | some q => (bnd o q.1 (stC i).1, q.2.1)
      | none => stC i
def q4 (i : Nat) : Q4 := match all[i]? with
  | none => default
  | some o => (aopD cx fr rid all (base + 8 * i) i o (stC cx fr rid all base H0 i).1 (stC cx fr rid all base H0 i).2).getD default

variable {cx fr rid all base H0}
theorem stC_succ {i : Nat} {o : Oper} {q : Q4} (ho : all[i]? = some o) (hq : aopD cx fr rid all (base + 8 * i) i o (stC cx fr rid all base H0 i).1 (stC cx fr rid all base H0 i).2 = some q) :
    q4 cx fr rid all base H0 i = q ∧ stC cx fr rid all base H0 (i + 1) = (bnd o q.1 (stC cx fr rid all base H0 i).1, q.2.1) := by
  simp only [q4, stC, ho, hq, Option.getD_some, and_self]

/-- a region's run in the text's order, and that none is in another's way -/
def Tr (cx : Cx) (fr : List AV) (rid : Nat) (all : List Oper) (bef : List Nat) (base : Nat) (H0 : Heap) : Prop :=
  (∀ i o, all[i]? = some o → aopD cx fr rid all (base + 8 * i) i o (stC cx fr rid all base H0 i).1 (stC cx fr rid all base H0 i).2 = some (q4 cx fr rid all base H0 i)) ∧
  ∀ i j, j < i → i < all.length → (bef.getD i 0).testBit j = true ∨ (∀ b, b ∈ (q4 cx fr rid all base H0 j).2.2.2 → b ∉ (q4 cx fr rid all base H0 i).2.2.1 ∧ b ∉ (q4 cx fr rid all base H0 i).2.2.2) ∧ ∀ b, b ∈ (q4 cx fr rid all base H0 j).2.2.1 → b ∉ (q4 cx fr rid all base H0 i).2.2.2
theorem disj_spec {a b : List Nat} (h : disj a b = true) : ∀ x, x ∈ a → x ∉ b := by
  intro x hx
  simp only [disj, List.all_eq_true] at h
  simpa using h x hx

theorem aopsD_trace {R : Type} {bef : List Nat} {K : List (Nat × AV) → Heap → Option R} {r : R} : ∀ (l : List Oper) (i : Nat) (done : List (Nat × List Nat × List Nat)), all.drop i = l → i ≤ all.length →
    (∀ j, j < i → (j, (q4 cx fr rid all base H0 j).2.2.1, (q4 cx fr rid all base H0 j).2.2.2) ∈ done) →
    aopsD cx fr rid all bef base K l i (stC cx fr rid all base H0 i).1 (stC cx fr rid all base H0 i).2 done = some r →
    (∀ k o, i ≤ k → all[k]? = some o → aopD cx fr rid all (base + 8 * k) k o (stC cx fr rid all base H0 k).1 (stC cx fr rid all base H0 k).2 = some (q4 cx fr rid all base H0 k)) ∧
    (∀ k j, i ≤ k → j < k → k < all.length → (bef.getD k 0).testBit j = true ∨ (∀ b, b ∈ (q4 cx fr rid all base H0 j).2.2.2 → b ∉ (q4 cx fr rid all base H0 k).2.2.1 ∧ b ∉ (q4 cx fr rid all base H0 k).2.2.2) ∧ ∀ b, b ∈ (q4 cx fr rid all base H0 j).2.2.1 → b ∉ (q4 cx fr rid all base H0 k).2.2.2) ∧
    K (stC cx fr rid all base H0 all.length).1 ((stC cx fr rid all base H0 all.length).2.atLeast (base + 8 * all.length)) = some r
  | [], i, done, hd, hi, hdone, h => by
    have hl : i = all.length := by
      have := congrArg List.length hd
      simp at this; omega
    subst hl
    exact ⟨fun k o hk ho => absurd (List.getElem?_eq_some_iff.1 ho).1 (by omega), fun k j hk _ hkl => by omega, h⟩
  | o :: rest, i, done, hd, hi, hdone, h => by
    have ho : all[i]? = some o := by
      have : (all.drop i)[0]? = some o := by rw [hd]; rfl
      rwa [List.getElem?_drop, Nat.add_zero] at this
    have hd' : all.drop (i + 1) = rest := by
      have := congrArg (List.drop 1) hd
      rw [List.drop_drop] at this
      simpa using this
    simp only [aopsD] at h
    obtain ⟨q, hq, h⟩ := Option.bind_eq_some_iff.1 h
    obtain ⟨h4, hs⟩ := stC_succ ho hq
    simp only [fzQ_eq] at h
    split at h
    · rename_i hok
      have hrec := aopsD_trace rest (i + 1) ((i, q.2.2.1, q.2.2.2) :: done) hd' (List.getElem?_eq_some_iff.1 ho).1 (fun j hj => by
        rcases Nat.lt_succ_iff_lt_or_eq.1 hj with hj | rfl
        · exact List.mem_cons_of_mem _ (hdone j hj)
        · rw [h4]; exact List.mem_cons_self) (by rw [hs]; exact h)
      refine ⟨fun k o' hk ho' => ?_, fun k j hk hj hkl => ?_, hrec.2.2⟩
      · rcases Nat.eq_or_lt_of_le hk with rfl | hk
        · rw [ho] at ho'; cases ho'
          rw [h4]; exact hq
        · exact hrec.1 k o' hk ho'
      · rcases Nat.eq_or_lt_of_le hk with rfl | hk
        · simp only [okPair, List.all_eq_true, Bool.or_eq_true, Bool.and_eq_true] at hok
          rcases hok _ (hdone j hj) with h | ⟨⟨h1, h2⟩, h3⟩
          · exact .inl h
          · refine .inr ⟨fun b hb => ⟨?_, ?_⟩, fun b hb => ?_⟩
            · rw [h4]; exact disj_spec h1 b hb
            · rw [h4]; exact disj_spec h2 b hb
            · rw [h4]; exact disj_spec h3 b hb
        · exact hrec.2.1 k j hk hj hkl
    · cases h

/-! ### what is to be seen of a drawn region -/
theorem nodup_fst {A B : Type} : ∀ {l : List (A × B)}, (l.map (·.1)).Nodup → ∀ {a : A} {x y : B}, (a, x) ∈ l → (a, y) ∈ l → x = y
  | [], _, a, x, y, h, _ => by simp at h
  | q :: r, hn, a, x, y, h, k => by
    rw [List.map_cons, List.nodup_cons] at hn
    have hout : ∀ z, (a, z) ∈ r → a ∈ r.map (·.1) := fun z hz => List.mem_map.2 ⟨(a, z), hz, rfl⟩
    rcases List.mem_cons.1 h with h1 | h1
    · subst h1
      rcases List.mem_cons.1 k with k1 | k1
      · cases k1; rfl
      · exact absurd (hout y k1) hn.1
    · rcases List.mem_cons.1 k with k1 | k1
      · subst k1; exact absurd (hout x h1) hn.1
      · exact nodup_fst hn.2 h1 k1
structure Drawn (ops : Array Oper) : Prop where
  once : ∀ (i i' : Nat) (o o' : Oper) (t : Nat), ops[i]? = some o → ops[i']? = some o' → o.dst = some t → o'.dst = some t → i = i'
  back : ∀ i o, ops[i]? = some o → ∀ e ∈ o.after.toList, Region.binds .any e = true → e.on < i
  look : ∀ q o t, ops[q]? = some o → .tmp t ∈ o.op.operands → ∀ i oi, ops[i]? = some oi → oi.dst = some t → (i < q ∧ ((befs ops).getD q 0).testBit i = true) ∨ (q < i ∧ ((befs ops).getD i 0).testBit q = true)
  guard : ∀ q o j want, ops[q]? = some o → o.guard = some (j, want) → j < q ∧ ((befs ops).getD q 0).testBit j = true ∧ ∃ oj d, ops[j]? = some oj ∧ oj.dst = some d
theorem zipIdx_mem {A : Type} {l : List A} {i : Nat} {a : A} (h : l[i]? = some a) : (a, i) ∈ l.zipIdx := by
  rw [List.mem_zipIdx_iff_getElem?]; exact h
theorem okDraw_spec {ops : Array Oper} (h : okDraw ops (befs ops) = true) : Drawn ops := by
  simp only [okDraw, Bool.and_eq_true, List.all_eq_true, decide_eq_true_eq] at h
  obtain ⟨hn, h⟩ := h
  have hds : ∀ i o t, ops[i]? = some o → o.dst = some t → (t, i) ∈ ops.toList.zipIdx.filterMap fun q => q.1.dst.map fun d => (d, q.2) := by
    intro i o t ho hd
    rw [List.mem_filterMap]
    exact ⟨(o, i), zipIdx_mem (by rw [Array.getElem?_toList]; exact ho), by simp [hd]⟩
  refine ⟨fun i i' o o' t h1 h2 h3 h4 => nodup_fst hn (hds i o t h1 h3) (hds i' o' t h2 h4), fun i o ho e he hb => ?_, fun q o t ho hx i oi hoi hd => ?_, fun q o j want ho hg => ?_⟩
  · have := (h (o, i) (zipIdx_mem (by rw [Array.getElem?_toList]; exact ho))).1.1 e he
    simpa [hb] using this
  · have := (h (o, q) (zipIdx_mem (by rw [Array.getElem?_toList]; exact ho))).1.2 (.tmp t) (Array.mem_toList_iff.2 hx)
    simp only [List.all_eq_true] at this
    have := this (t, i) (hds i oi t hoi hd)
    simpa using this
  · have := (h (o, q) (zipIdx_mem (by rw [Array.getElem?_toList]; exact ho))).2
    simp only [hg, Bool.and_eq_true, decide_eq_true_eq] at this
    obtain ⟨⟨h1, h2⟩, h3⟩ := this
    refine ⟨h1, h2, ?_⟩
    cases hoj : ops[j]? with
    | none => rw [hoj] at h3; simp at h3
    | some oj =>
      rw [hoj] at h3
      cases hd : oj.dst with
      | none => rw [Option.bind_some, hd] at h3; simp at h3
      | some d => exact ⟨oj, d, rfl, hd⟩

/-! ### slots and blocks of operations that are done -/
theorem lookup_bnd (o : Oper) (v : AV) (loc : List (Nat × AV)) (t : Nat) : (bnd o v loc).lookup t = if o.dst = some t then some v else loc.lookup t := by
  unfold bnd
  cases hd : o.dst with
  | none => simp
  | some d =>
    simp only [List.lookup_cons]
    by_cases ht : t = d
    · subst ht; simp
    · have : (t == d) = false := by simp [ht]
      rw [this]
      simp [Ne.symm ht]
/-- what the slots of the operations of S hold -/
def LocOk (cx : Cx) (fr : List AV) (rid : Nat) (all : List Oper) (base : Nat) (H0 : Heap) (S : Nat → Prop) (loc : List (Nat × AV)) : Prop :=
  ∀ t v, loc.lookup t = some v ↔ ∃ i o, S i ∧ all[i]? = some o ∧ o.dst = some t ∧ v = (q4 cx fr rid all base H0 i).1
theorem LocOk.add {S : Nat → Prop} {loc : List (Nat × AV)} {j : Nat} {o : Oper} (h : LocOk cx fr rid all base H0 S loc) (hj : ¬ S j) (ho : all[j]? = some o)
    (hu : ∀ (i i' : Nat) (o o' : Oper) (t : Nat), all[i]? = some o → all[i']? = some o' → o.dst = some t → o'.dst = some t → i = i') :
    LocOk cx fr rid all base H0 (fun i => S i ∨ i = j) (bnd o (q4 cx fr rid all base H0 j).1 loc) := by
  intro t v
  rw [lookup_bnd]
  split
  · rename_i hd
    constructor
    · intro e; cases e; exact ⟨j, o, .inr rfl, ho, hd, rfl⟩
    · rintro ⟨i, o', _, h1, h2, rfl⟩
      rw [hu i j o' o t h1 ho h2 hd]
  · rename_i hd
    rw [h t v]
    constructor
    · rintro ⟨i, o', h1, h2⟩; exact ⟨i, o', .inl h1, h2⟩
    · rintro ⟨i, o', h1 | rfl, h2, h3, h4⟩
      · exact ⟨i, o', h1, h2, h3, h4⟩
      · rw [ho] at h2; cases h2; exact absurd h3 hd
theorem LocOk.same {S S' : Nat → Prop} {loc loc' : List (Nat × AV)} (h : LocOk cx fr rid all base H0 S loc) (h' : LocOk cx fr rid all base H0 S' loc') {t : Nat} (hs : ∀ i o, all[i]? = some o → o.dst = some t → (S i ↔ S' i)) : loc.lookup t = loc'.lookup t := by
  apply Option.ext
  intro v
  rw [h t v, h' t v]
  constructor
  · rintro ⟨i, o, h1, h2, h3, h4⟩; exact ⟨i, o, (hs i o h2 h3).1 h1, h2, h3, h4⟩
  · rintro ⟨i, o, h1, h2, h3, h4⟩; exact ⟨i, o, (hs i o h2 h3).2 h1, h2, h3, h4⟩
theorem evalA_same {pos : List Nat} {loc loc' : List (Nat × AV)} {x : Operand} (h : ∀ t, x = .tmp t → loc.lookup t = loc'.lookup t) : evalA pos fr loc x = evalA pos fr loc' x := by
  cases x with
  | tmp t => simp only [evalA]; rw [h t rfl]
  | _ => rfl

/-- the block's content behind the last of S that turns it -/
def HeapOk (cx : Cx) (fr : List AV) (rid : Nat) (all : List Oper) (base : Nat) (H0 : Heap) (S : Nat → Prop) (H : Heap) : Prop :=
  (∀ b i, S i → b ∈ (q4 cx fr rid all base H0 i).2.2.2 → (∀ i', S i' → b ∈ (q4 cx fr rid all base H0 i').2.2.2 → i' ≤ i) → H.get b = (q4 cx fr rid all base H0 i).2.1.get b) ∧
  ∀ b, (∀ i, S i → b ∉ (q4 cx fr rid all base H0 i).2.2.2) → H.get b = H0.get b
theorem last_or {p : Nat → Prop} : ∀ n : Nat, (∀ i, p i → i < n) → (∃ i, p i ∧ ∀ i', p i' → i' ≤ i) ∨ ∀ i, ¬ p i
  | 0, h => .inr fun i hi => absurd (h i hi) (by omega)
  | n + 1, h => by
    by_cases hp : p n
    · exact .inl ⟨n, hp, fun i' hi' => by have := h i' hi'; omega⟩
    · exact last_or n fun i hi => by
        have := h i hi
        rcases Nat.lt_succ_iff_lt_or_eq.1 this with h | rfl
        · exact h
        · exact absurd hi hp
/-- two heaps say the same at a block that the same operations turn -/
theorem HeapOk.same {S S' : Nat → Prop} {H H' : Heap} {n : Nat} (h : HeapOk cx fr rid all base H0 S H) (h' : HeapOk cx fr rid all base H0 S' H') (hn : ∀ i, S i → i < n) {b : Nat}
    (hs : ∀ i, b ∈ (q4 cx fr rid all base H0 i).2.2.2 → (S i ↔ S' i)) : H.get b = H'.get b := by
  rcases last_or (p := fun i => S i ∧ b ∈ (q4 cx fr rid all base H0 i).2.2.2) n (fun i hi => hn i hi.1) with ⟨i, hi, hl⟩ | hno
  · rw [h.1 b i hi.1 hi.2 fun i' h1 h2 => hl i' ⟨h1, h2⟩, h'.1 b i ((hs i hi.2).1 hi.1) hi.2 fun i' h1 h2 => hl i' ⟨(hs i' h2).2 h1, h2⟩]
  · rw [h.2 b fun i hi hb => hno i ⟨hi, hb⟩, h'.2 b fun i hi hb => hno i ⟨(hs i hb).2 hi, hb⟩]
theorem HeapOk.add {S : Nat → Prop} {H H' : Heap} {j : Nat} (h : HeapOk cx fr rid all base H0 S H) (hj : ∀ i, S i → j < i → ∀ b, b ∈ (q4 cx fr rid all base H0 i).2.2.2 → b ∉ (q4 cx fr rid all base H0 j).2.2.2)
    (h1 : ∀ b, b ∈ (q4 cx fr rid all base H0 j).2.2.2 → H'.get b = (q4 cx fr rid all base H0 j).2.1.get b) (h2 : ∀ b, b ∉ (q4 cx fr rid all base H0 j).2.2.2 → H'.get b = H.get b) :
    HeapOk cx fr rid all base H0 (fun i => S i ∨ i = j) H' := by
  refine ⟨fun b i hi hb hl => ?_, fun b hb => ?_⟩
  · by_cases hw : b ∈ (q4 cx fr rid all base H0 j).2.2.2
    · have hji := hl j (.inr rfl) hw
      rcases Nat.eq_or_lt_of_le hji with rfl | hlt
      · exact h1 b hw
      · rcases hi with hi | rfl
        · exact absurd hw (hj i hi hlt b hb)
        · omega
    · rw [h2 b hw]
      rcases hi with hi | rfl
      · exact h.1 b i hi hb fun i' h3 h4 => hl i' (.inl h3) h4
      · exact absurd hb hw
  · rw [h2 b (hb j (.inr rfl))]
    exact h.2 b fun i hi => hb i (.inl hi)

/-- the text's own order, so seen -/
theorem canon_ok {bef : List Nat} (hT : Tr cx fr rid all bef base H0) (hy : cx.yield = none) (hu : ∀ (i i' : Nat) (o o' : Oper) (t : Nat), all[i]? = some o → all[i']? = some o' → o.dst = some t → o'.dst = some t → i = i') :
    ∀ j, j ≤ all.length → LocOk cx fr rid all base H0 (· < j) (stC cx fr rid all base H0 j).1 ∧ HeapOk cx fr rid all base H0 (· < j) (stC cx fr rid all base H0 j).2 ∧ (stC cx fr rid all base H0 j).2.outer = H0.outer
  | 0, _ => ⟨fun t v => by simp [stC], ⟨fun b i hi => absurd hi (Nat.not_lt_zero _), fun b _ => rfl⟩, rfl⟩
  | j + 1, hj => by
    obtain ⟨h1, h2, h3⟩ := canon_ok hT hy hu j (by omega)
    have ho : all[j]? = some all[j] := List.getElem?_eq_getElem (by omega)
    have hq := hT.1 j _ ho
    obtain ⟨_, hs⟩ := stC_succ ho hq
    rw [hs]
    have hlt : ∀ i, (i < j + 1) = (i < j ∨ i = j) := fun i => propext Nat.lt_succ_iff_lt_or_eq
    simp only [hlt]
    obtain ⟨k1, k2, _⟩ := aopD_loc hy fr rid all (base + 8 * j) j all[j] (stC cx fr rid all base H0 j).1 _ _ _ _ _ hq
    exact ⟨LocOk.add h1 (Nat.lt_irrefl j) ho hu, HeapOk.add h2 (fun i hi hji => by omega) (fun _ _ => rfl) k1, k2.trans h3⟩

/-! ### the same state, said by another heap -/
theorem reH {N : Nat → Prop} {y : Bool} {G : Gh} (hS : StRel G) {H' : Heap} (hg : ∀ b, H'.get b = G.H.get b) (ho : H'.outer = G.H.outer) (hn : ∀ b g, G.A b g → b < H'.next) : AStep N y G { G with H := H' } := by
  have hM : ∀ B, (Gh.M { G with H := H' } B) → G.M B := by
    rintro B (q | ⟨b, x, hb, hi⟩)
    · exact .inl q
    · exact .inr ⟨b, x, by rw [← hg b]; exact hb, hi⟩
  have he : Ext G { G with H := H' } := {
    size := Nat.le_refl _
    still := fun B _ hn => ⟨fun q => hn (hM B q), rfl⟩
    next := by rintro b g b' g' ha e; cases e; exact ha
    cells := by rintro b b' g' cs' _ e h; cases e; exact ⟨cs', by rw [← hg b]; exact h, rfl⟩
    rows := by rintro b g b' g' sz p es' _ e h; cases e; exact ⟨p, es', by rw [← hg b]; exact h, rfl, rfl, fun _ _ => Nat.le_refl _⟩
    maps := by rintro b b' g' ks vs _ e h; cases e; exact ⟨ks, vs, by rw [← hg b]; exact h, rfl⟩
    yl := .inr rfl
    zero := by rintro b b' g' _ e h; cases e; exact h }
  exact {
    st := {
      next := fun b g h => hn b g h
      here := fun b x h => hS.here b x (by rw [← hg b]; exact h)
      gen := fun b g sz p es g' h => hS.gen b g sz p es g' (by rw [← hg b]; exact h)
      blk := fun b x h => (hS.blk b x (by rw [← hg b]; exact h)).mv he rfl (fun _ _ _ q => q) (fun _ _ _ => rfl)
      inj := fun b b' x x' B h1 h2 => hS.inj b b' x x' B (by rw [← hg b]; exact h1) (by rw [← hg b']; exact h2)
      low := hS.low }
    size := Nat.le_refl _
    F1 := fun _ q => q
    F2 := fun _ q => .inl q
    yl := rfl
    outer := fun _ => ho
    os := rfl, tape := rfl, output := rfl
    far := fun _ _ _ _ => rfl
    rng := fun b x B h hi => .inl ⟨b, x, by rw [← hg b]; exact h, hi⟩
    A := fun b g _ h => h
    cells := fun b cs' _ _ h => ⟨cs', by rw [← hg b]; exact h, rfl⟩
    rows := fun b g sz p es' _ _ h => ⟨p, es', by rw [← hg b]; exact h, rfl, rfl, fun _ _ => Nat.le_refl _⟩
    maps := fun b ks vs _ _ h => ⟨ks, vs, by rw [← hg b]; exact h, rfl⟩
    kind := fun b g sz p es' g1 _ _ h => ⟨g, sz, p, es', by rw [← hg b]; exact h, Nat.le_refl _⟩ }
end draw
end Go.Am
namespace Go.Am
section draw
variable {P : Program} {cx : Cx} {fr : List AV} {rid : Nat} {ops : Array Oper} {H0 : Heap}

def doneOf (L : Array Bool) (i : Nat) : Prop := L.getD i false = true
/-- ahead of one more operation -/
structure SInv (cx : Cx) (fr : List AV) (rid : Nat) (ops : Array Oper) (H0 : Heap) (nt : Nat) (G0 : Gh) (a0 : Act) (G : Gh) (L : Array Bool) (loc : List (Nat × AV)) (a : Act) : Prop where
  sz : L.size = ops.size
  cl : ∀ i o, doneOf L i → ops[i]? = some o → ∀ e ∈ o.after.toList, Region.binds .any e = true → doneOf L e.on
  step : AStep (fun _ => True) false G0 G
  slots : LocOk cx fr rid ops.toList H0.next H0 (doneOf L) loc
  env : Env G cx.ann.pos fr loc a
  heap : HeapOk cx fr rid ops.toList H0.next H0 (doneOf L) G.H
  A : ∀ b g, G.A b g → (∃ g', G0.A b g') ∨ ∃ i, doneOf L i ∧ H0.next + 8 * i ≤ b ∧ b < H0.next + 8 * i + 8
  tm : a.tmps.size = nt
  df : a.defers = a0.defers

theorem done_lt {L : Array Bool} {i : Nat} (h : doneOf L i) : i < L.size := by
  unfold doneOf at h
  rcases Nat.lt_or_ge i L.size with q | q
  · exact q
  · simp [Array.getElem?_eq_none q] at h
theorem done_set {L : Array Bool} {j : Nat} (hj : j < L.size) (i : Nat) : doneOf (L.setIfInBounds j true) i ↔ doneOf L i ∨ i = j := by
  unfold doneOf
  by_cases h : j = i
  · subst h; simp [hj]
  · rw [getD_set_ne false h]
    constructor
    · exact .inl
    · rintro (q | rfl)
      · exact q
      · exact absurd rfl h

variable {nt : Nat} {G0 G : Gh} {a0 a : Act} {L : Array Bool} {loc : List (Nat × AV)}
/-- one operation more: what it does is what it does in the text's order -/
theorem SInv.next (hI : SInv cx fr rid ops H0 nt G0 a0 G L loc a) (hT : Tr cx fr rid ops.toList (befs ops) H0.next H0) (hy : cx.yield = none) (hD : Drawn ops) {j : Nat} {o : Oper} (ho : ops[j]? = some o) (hj : ¬ doneOf L j)
    (hr : ∀ e ∈ o.after.toList, Region.binds .any e = true → doneOf L e.on) :
    ∃ H', aopD cx fr rid ops.toList (H0.next + 8 * j) j o loc G.H = some ((q4 cx fr rid ops.toList H0.next H0 j).1, H', (q4 cx fr rid ops.toList H0.next H0 j).2.2.1, (q4 cx fr rid ops.toList H0.next H0 j).2.2.2) ∧
      ∀ G2 cv, AStep (fun _ => True) false G G2 → G2.H = H' → VRel G2 (q4 cx fr rid ops.toList H0.next H0 j).1 cv → (∀ d, o.dst = some d → d < nt) →
        (∀ b g, G2.A b g → (∃ g', G.A b g') ∨ (H0.next + 8 * j ≤ b ∧ b < H0.next + 8 * j + 8)) → SInv cx fr rid ops H0 nt G0 a0 G2 (L.setIfInBounds j true) (bnd o (q4 cx fr rid ops.toList H0.next H0 j).1 loc) (a.put o.dst cv) := by
  have hjn : j < ops.size := (Array.getElem?_eq_some_iff.1 ho).1
  have ho' : ops.toList[j]? = some o := by rw [Array.getElem?_toList]; exact ho
  have hget : ∀ {i : Nat} {oi : Oper}, ops.toList[i]? = some oi → ops[i]? = some oi := fun h => by rwa [Array.getElem?_toList] at h
  have hu : ∀ (i i' : Nat) (o o' : Oper) (t : Nat), ops.toList[i]? = some o → ops.toList[i']? = some o' → o.dst = some t → o'.dst = some t → i = i' := fun i i' o o' t h1 h2 => hD.once i i' o o' t (hget h1) (hget h2)
  obtain ⟨c1, c2, c3⟩ := canon_ok hT hy hu j (by simpa using Nat.le_of_lt hjn)
  -- what stands ahead is done; what stands behind is not
  have hpre : ∀ i, ((befs ops).getD j 0).testBit i = true → doneOf L i := befs_closed (D := doneOf L) hD.back hI.cl j o ho hr
  have hpost : ∀ i oi, ops[i]? = some oi → ((befs ops).getD i 0).testBit j = true → ¬ doneOf L i := by
    intro i oi hoi hb hi
    exact hj (befs_closed (D := doneOf L) hD.back hI.cl i oi hoi (hI.cl i oi hi hoi) j hb)
  have hlook : ∀ t, .tmp t ∈ o.op.operands → loc.lookup t = (stC cx fr rid ops.toList H0.next H0 j).1.lookup t := by
    intro t ht
    refine LocOk.same hI.slots c1 fun i oi hoi hd => ?_
    rcases hD.look j o t ho ht i oi (hget hoi) hd with ⟨h1, h2⟩ | ⟨h1, h2⟩
    · exact ⟨fun _ => h1, fun _ => hpre i h2⟩
    · exact ⟨fun q => absurd q (hpost i oi (hget hoi) h2), fun q => by omega⟩
  have hblk : ∀ b, b ∈ (q4 cx fr rid ops.toList H0.next H0 j).2.2.1 ∨ b ∈ (q4 cx fr rid ops.toList H0.next H0 j).2.2.2 → G.H.get b = (stC cx fr rid ops.toList H0.next H0 j).2.get b := by
    intro b hb
    refine HeapOk.same hI.heap c2 (n := ops.size) (fun i hi => by rw [← hI.sz]; exact done_lt hi) fun i hw => ?_
    rcases Nat.lt_trichotomy i j with hlt | rfl | hgt
    · refine ⟨fun _ => hlt, fun _ => ?_⟩
      rcases hT.2 j i hlt (by simpa using hjn) with h | ⟨h, _⟩
      · exact hpre i h
      · rcases hb with hb | hb
        · exact absurd hb (h b hw).1
        · exact absurd hb (h b hw).2
    · exact ⟨fun q => absurd q hj, fun q => absurd q (Nat.lt_irrefl _)⟩
    · refine ⟨fun q => ?_, fun q => by omega⟩
      have hil : i < ops.size := by rw [← hI.sz]; exact done_lt q
      rcases hT.2 i j hgt (by simpa using hil) with h | ⟨h1, h2⟩
      · exact absurd q (hpost i _ (Array.getElem?_eq_getElem hil) h)
      · rcases hb with hb | hb
        · exact absurd hw (h2 b hb)
        · exact absurd hw (h1 b hb).2
  have hq := hT.1 j o ho'
  obtain ⟨k1, k2, k3⟩ := aopD_loc hy fr rid ops.toList (H0.next + 8 * j) j o (stC cx fr rid ops.toList H0.next H0 j).1 _ _ _ _ _ hq
  obtain ⟨H', e1, e2, e3, e4⟩ := k3 G.H hblk
  have hcong : aopD cx fr rid ops.toList (H0.next + 8 * j) j o loc G.H = aopD cx fr rid ops.toList (H0.next + 8 * j) j o (stC cx fr rid ops.toList H0.next H0 j).1 G.H := by
    refine aopD_congr (fun x hx => evalA_same fun t ht => hlook t (ht ▸ hx)) fun jg want hg => ?_
    obtain ⟨g1, g2, oj, d, g3, g4⟩ := hD.guard j o jg want ho hg
    refine evalA_same fun t ht => ?_
    simp only [guardSlot, Array.getElem?_toList, g3, Option.bind_some, g4, Operand.tmp.injEq] at ht
    subst ht
    refine LocOk.same hI.slots c1 fun i oi hoi hd => ?_
    have : i = jg := hD.once i jg oi oj d (hget hoi) g3 hd g4
    subst this
    exact ⟨fun _ => g1, fun _ => hpre i g2⟩
  refine ⟨H', by rw [hcong]; exact e1, fun G2 cv hst hH hv hdn hA => ?_⟩
  have hjL : j < L.size := by rw [hI.sz]; exact hjn
  have hset := done_set (L := L) hjL
  have hfun : doneOf (L.setIfInBounds j true) = fun i => doneOf L i ∨ i = j := funext fun i => propext (hset i)
  have hgeq : HeapOk cx fr rid ops.toList H0.next H0 (fun i => doneOf L i ∨ i = j) G2.H := by
    rw [hH]
    refine HeapOk.add hI.heap (fun i hi hji b hb => ?_) e2 e3
    have hil : i < ops.size := by rw [← hI.sz]; exact done_lt hi
    rcases hT.2 i j hji (by simpa using hil) with h | ⟨h1, _⟩
    · exact absurd hi (hpost i _ (Array.getElem?_eq_getElem hil) h)
    · intro hb'
      exact (h1 b hb').2 hb
  exact {
    sz := by rw [Array.size_setIfInBounds]; exact hI.sz
    cl := fun i oi hi hoi e he hb => by
      rw [hset] at hi ⊢
      rcases hi with hi | rfl
      · exact .inl (hI.cl i oi hi hoi e he hb)
      · rw [ho] at hoi; cases hoi; exact .inl (hr e he hb)
    step := hI.step.trans hst
    slots := by rw [hfun]; exact LocOk.add hI.slots hj ho' hu
    env := (hI.env.ext hst.ext).bnd (fun d hd => by rw [hI.tm]; exact hdn d hd) hv
    heap := by rw [hfun]; exact hgeq
    A := fun b g h => by
      rcases hA b g h with ⟨g', h⟩ | h
      · rcases hI.A b g' h with h | ⟨i, hi, h⟩
        · exact .inl h
        · exact .inr ⟨i, (hset i).2 (.inl hi), h⟩
      · exact .inr ⟨j, (hset j).2 (.inr rfl), h.1, h.2⟩
    tm := by rw [size_put]; exact hI.tm
    df := by rw [defers_put]; exact hI.df }

/-- behind the last one -/
theorem SInv.last (hI : SInv cx fr rid ops H0 nt G0 a0 G L loc a) (hT : Tr cx fr rid ops.toList (befs ops) H0.next H0) (hy : cx.yield = none) (hD : Drawn ops) (h0 : G0.H = H0) (hS0 : StRel G0) (hall : ∀ i, i < ops.size → doneOf L i) :
    ∃ G2, G2.w = G.w ∧ AStep (fun _ => True) false G0 G2 ∧ G2.H = (stC cx fr rid ops.toList H0.next H0 ops.size).2.atLeast (H0.next + 8 * ops.size) ∧ Env G2 cx.ann.pos fr (stC cx fr rid ops.toList H0.next H0 ops.size).1 a := by
  have hget : ∀ {i : Nat} {oi : Oper}, ops.toList[i]? = some oi → ops[i]? = some oi := fun h => by rwa [Array.getElem?_toList] at h
  have hu : ∀ (i i' : Nat) (o o' : Oper) (t : Nat), ops.toList[i]? = some o → ops.toList[i']? = some o' → o.dst = some t → o'.dst = some t → i = i' := fun i i' o o' t h1 h2 => hD.once i i' o o' t (hget h1) (hget h2)
  obtain ⟨c1, c2, c3⟩ := canon_ok hT hy hu ops.size (by simp)
  have hiff : ∀ i, doneOf L i ↔ i < ops.size := fun i => ⟨fun h => by rw [← hI.sz]; exact done_lt h, hall i⟩
  have hg : ∀ b, ((stC cx fr rid ops.toList H0.next H0 ops.size).2.atLeast (H0.next + 8 * ops.size)).get b = G.H.get b := by
    intro b
    exact (HeapOk.same hI.heap c2 (n := ops.size) (fun i hi => (hiff i).1 hi) fun i _ => hiff i).symm
  have hst := reH (N := fun _ => True) (y := false) (G := G) hI.step.st hg (by
    show (stC cx fr rid ops.toList H0.next H0 ops.size).2.outer = _
    rw [c3, hI.step.outer rfl, h0]) fun b g h => by
      show b < max _ _
      rcases hI.A b g h with ⟨g', h⟩ | ⟨i, hi, h1, h2⟩
      · have := hS0.next b g' h
        rw [h0] at this; omega
      · have := (hiff i).1 hi
        omega
  refine ⟨{ G with H := (stC cx fr rid ops.toList H0.next H0 ops.size).2.atLeast (H0.next + 8 * ops.size) }, rfl, hI.step.trans hst, rfl, ?_⟩
  have hE := hI.env.ext hst.ext
  have hl : ∀ t, (stC cx fr rid ops.toList H0.next H0 ops.size).1.lookup t = loc.lookup t := fun t => (LocOk.same hI.slots c1 fun i _ _ _ => hiff i).symm
  exact ⟨fun t v hv => hE.1 t v (by rw [← hl t]; exact hv), fun i t v h1 h2 h3 => hE.2 i t v h1 h2 (by rw [← hl t]; exact h3)⟩

theorem count_done {L : Array Bool} (h : L.toList.count false = 0) : ∀ i, i < L.size → doneOf L i := by
  intro i hi
  rw [List.count_eq_zero] at h
  unfold doneOf
  cases hb : L[i] with
  | true => simp [hi, hb]
  | false => exact absurd (by rw [← hb]; simp) h

theorem draw_any {OI : Gh → Prop} {ro : Option Nat} {Q : Exit → Act → World → Prop} (hP : cx.P = P) (hC : CallSpec P cx.call) (hO : OStab OI) (hy : cx.yield = none) (hT : Tr cx fr rid ops.toList (befs ops) H0.next H0) (hD : Drawn ops) (h0 : G0.H = H0) (hS0 : StRel G0)
    (hOI : OI G0) (hds : ∀ o, o ∈ ops.toList → ∀ d, o.dst = some d → d < nt)
    (hQ : ∀ a' G2, AStep (fun _ => True) false G0 G2 → G2.H = (stC cx fr rid ops.toList H0.next H0 ops.size).2.atLeast (H0.next + 8 * ops.size) → Env G2 cx.ann.pos fr (stC cx fr rid ops.toList H0.next H0 ops.size).1 a' → a'.tmps.size = nt → a'.defers = a0.defers → Q .normal a' G2.w) :
    ∀ (fuel : Nat) (L : Array Bool) (loc : List (Nat × AV)) (G : Gh) (a : Act), SInv cx fr rid ops H0 nt G0 a0 G L loc a → L.toList.count false = fuel → wpAnyIn (wideR ro) 0 P .any ops Q fuel L a G.w := by
  intro fuel
  have hend : ∀ (L : Array Bool) (loc : List (Nat × AV)) (G : Gh) (a : Act), SInv cx fr rid ops H0 nt G0 a0 G L loc a → (∀ i, i < ops.size → doneOf L i) → Q .normal a G.w := by
    intro L loc G a hI hall
    obtain ⟨G2, hw, h1, h2, h3⟩ := hI.last hT hy hD h0 hS0 hall
    rw [← hw]
    exact hQ a G2 h1 h2 h3 hI.tm hI.df
  have hnotready : ∀ (L : Array Bool), L.size = ops.size → Region.ready .any ops L = [] → ∀ i, i < ops.size → doneOf L i := by
    intro L hsz hre i
    induction i using Nat.strongRecOn with
    | ind i ih =>
      intro hi
      by_cases hd : doneOf L i
      · exact hd
      · exfalso
        have hmem : i ∈ Region.ready .any ops L := by
          rw [mem_ready]
          have hiL : i < L.size := by omega
          refine ⟨?_, ops[i], Array.getElem?_eq_getElem hi, fun e he hb => ?_⟩
          · unfold doneOf at hd
            simp [hiL] at hd ⊢; exact hd
          · have hlt := hD.back i _ (Array.getElem?_eq_getElem hi) e (Array.mem_toList_iff.2 he) hb
            exact ih e.on hlt (by omega)
        rw [hre] at hmem; cases hmem
  induction fuel with
  | zero =>
    intro L loc G a hI hc
    have hall : ∀ i, i < ops.size → doneOf L i := fun i hi => count_done hc i (by rw [hI.sz]; exact hi)
    refine ⟨?_, hend L loc G a hI hall⟩
    rw [List.eq_nil_iff_forall_not_mem]
    intro i hi
    obtain ⟨h1, o, ho, _⟩ := mem_ready.1 hi
    have hin := (Array.getElem?_eq_some_iff.1 ho).1
    have := hall i hin
    unfold doneOf at this
    have hiL : i < L.size := by rw [hI.sz]; exact hin
    simp [hiL] at h1 this
    rw [h1] at this; cases this
  | succ fuel ih =>
    intro L loc G a hI hc
    refine ⟨fun hre => hend L loc G a hI (hnotready L hI.sz hre), fun j hj => ?_⟩
    obtain ⟨h1, o, ho, hedge⟩ := mem_ready.1 hj
    have hin := (Array.getElem?_eq_some_iff.1 ho).1
    have hjL : j < L.size := by rw [hI.sz]; exact hin
    have hLj : L[j] = false := by simpa [hjL] using h1
    have hnd : ¬ doneOf L j := by unfold doneOf; simp [hjL, hLj]
    have hmem : o ∈ ops.toList := by
      have : ops.toList[j]? = some o := by rw [Array.getElem?_toList]; exact ho
      exact List.mem_of_getElem? this
    obtain ⟨H', hst, hnext⟩ := hI.next hT hy hD ho hnd (fun e he hb => hedge e (Array.mem_toList_iff.1 he) hb)
    have hcount : (L.setIfInBounds j true).toList.count false = fuel := by
      rw [Array.toList_setIfInBounds, List.count_set (by simpa using hjL)]
      simp [hLj]
      have := hc
      simp at this
      omega
    have hfresh : Fresh G (H0.next + 8 * j) := by
      intro b g hb1 hb2 hA
      rcases hI.A b g hA with ⟨g', h⟩ | ⟨i, hi, h3, h4⟩
      · have := hS0.next b g' h
        rw [h0] at this; omega
      · have : i = j := by omega
        subst this; exact hnd hi
    unfold wpOpIn
    simp only [ho]
    have hOIG : OI G := hO _ _ _ hOI hI.step
    have hYn : YRel P cx.yield G.yl OI := by intro Z hZ; rw [hy] at hZ; cases hZ
    unfold aopD at hst
    split at hst
    · rename_i hg
      simp only [Region.wanted, hg, if_true]
      refine astep_wp4 hst hP hC hYn hO hI.step.st hOIG (fun x _ => hI.env.eval x) hfresh _ _ fun cv G2 hst2 hH2 hv hAc hOI2 => ?_
      rw [hy] at hst2
      exact ih _ _ G2 _ (hnext G2 cv hst2 hH2 hv (fun d hd => hds o hmem d hd) hAc) hcount
    · rename_i jg want hg
      simp only [Region.wanted, hg]
      rcases gd_sound (a := a) hst (hI.env.eval _) with ⟨hw, hx⟩ | ⟨hw, hx⟩
      · simp only [hw, if_true]
        refine astep_wp4 hx hP hC hYn hO hI.step.st hOIG (fun x _ => hI.env.eval x) hfresh _ _ fun cv G2 hst2 hH2 hv hAc hOI2 => ?_
        rw [hy] at hst2
        exact ih _ _ G2 _ (hnext G2 cv hst2 hH2 hv (fun d hd => hds o hmem d hd) hAc) hcount
      · simp only [hw, Bool.false_eq_true, if_false]
        refine ⟨fun _ _ => trivial, ?_⟩
        simp only [Prod.mk.injEq] at hx
        refine ih _ _ G _ (hnext G undef (.refl hI.step.st) hx.2.1.symm (by rw [hx.1]; exact .tup [] #[] rfl (by simp)) (fun d hd => hds o hmem d hd) (fun b g h => .inl ⟨g, h⟩)) hcount

/-- a drawn region -/
theorem aopsD_sound {R : Type} {K : List (Nat × AV) → Heap → Option R} {r : R} {OI : Gh → Prop} {ro : Option Nat} (hP : cx.P = P) (hC : CallSpec P cx.call) (hO : OStab OI) (hy : cx.yield = none) (hD : okDraw ops (befs ops) = true)
    (hds : ∀ o, o ∈ ops.toList → ∀ d, o.dst = some d → d < nt) (h : aopsD cx fr rid ops.toList (befs ops) H0.next K ops.toList 0 [] H0 [] = some r) :
    ∃ loc' H', K loc' H' = some r ∧ ∀ (G : Gh) (a : Act), G.H = H0 → StRel G → OI G → Env G cx.ann.pos fr [] a → a.tmps.size = nt →
      ∀ (Q : Exit → Act → World → Prop), (∀ a' G2, AStep (fun _ => True) false G G2 → G2.H = H' → Env G2 cx.ann.pos fr loc' a' → OI G2 → a'.tmps.size = nt → a'.defers = a.defers → Q .normal a' G2.w) →
        wpAnyIn (wideR ro) 0 P .any ops Q ops.size (Array.replicate ops.size false) a G.w := by
  have hD := okDraw_spec hD
  obtain ⟨h1, h2, h3⟩ := aopsD_trace (cx := cx) (fr := fr) (rid := rid) (base := H0.next) (H0 := H0) ops.toList 0 [] rfl (Nat.zero_le _) (fun j hj => by omega) h
  have hT : Tr cx fr rid ops.toList (befs ops) H0.next H0 := ⟨fun i o ho => h1 i o (Nat.zero_le _) ho, fun i j hj hi => h2 i j (Nat.zero_le _) hj hi⟩
  rw [Array.length_toList] at h3
  refine ⟨_, _, h3, fun G a hH hS hOI hE hn Q hQ => ?_⟩
  have hno : ∀ i, ¬ doneOf (Array.replicate ops.size false) i := by
    intro i hi
    have := done_lt hi
    unfold doneOf at hi
    simp at this
    simp [this] at hi
  refine draw_any (nt := nt) hP hC hO hy hT hD hH hS hOI hds (fun a' G2 k1 k2 k3 k4 k5 => hQ a' G2 k1 k2 k3 (hO _ _ _ hOI k1) k4 k5) ops.size _ [] G a ?_ (by simp)
  exact {
    sz := by simp
    cl := fun i _ hi => absurd hi (hno i)
    step := .refl hS
    slots := fun t v => by
      simp only [List.lookup_nil]
      constructor
      · intro q; cases q
      · rintro ⟨i, _, hi, _⟩; exact absurd hi (hno i)
    env := hE
    heap := ⟨fun b i hi => absurd hi (hno i), fun b _ => by rw [hH]⟩
    A := fun b g q => .inl ⟨g, q⟩
    tm := hn
    df := rfl }
end draw
end Go.Am
namespace Go.Am
section code
variable {P : Program}

/-- marks that loops over functions have left among the deferred calls -/
def Marks (s0 : Nat) (G : Gh) : List Deferred → Prop
  | [] => True
  | d :: ds => (∃ D, d.target = .collected D ∧ s0 ≤ D ∧ G.F D ∧ G.w.heap[D]? = some (.deferred (some [])) ∧ ∀ d' ∈ ds, d'.target ≠ .collected D) ∧ Marks s0 G ds
theorem StRel.notOwn {G : Gh} (hS : StRel G) {D : Nat} {o : Obj} (hD : G.w.heap[D]? = some o) (ho : (∀ c e z, o ≠ .cells c e z) ∧ ∀ es k, o ≠ .map es k) : ∀ b x, G.H.get b = some x → G.ι b ≠ some D := by
  intro b x hb hi
  have := hS.blk b x hb
  cases x with
  | cells cs => obtain ⟨B, h1, _, _, c, e, h4, _⟩ := this; rw [hi] at h1; cases h1; rw [hD] at h4; cases h4; exact ho.1 _ _ _ rfl
  | sl g sz p es =>
    obtain ⟨_, h | ⟨B, h1, _, _, c, e, h4, _⟩⟩ := this
    · rw [hi] at h; cases h.1
    · rw [hi] at h1; cases h1; rw [hD] at h4; cases h4; exact ho.1 _ _ _ rfl
  | map ks vs => obtain ⟨B, h1, _, _, es, k, h4, _⟩ := this; rw [hi] at h1; cases h1; rw [hD] at h4; cases h4; exact ho.2 _ _ rfl
theorem Marks.step {s0 : Nat} {N : Nat → Prop} {G G2 : Gh} (hS : StRel G) (h : AStep N false G G2) : ∀ {ds : List Deferred}, Marks s0 G ds → Marks s0 G2 ds
  | [], _ => trivial
  | d :: ds, ⟨⟨D, h1, h2, h3, h4, h5⟩, hr⟩ => by
    refine ⟨⟨D, h1, h2, h.F1 D h3, ?_, h5⟩, Marks.step hS h hr⟩
    rw [h.far D (lt_of_heap h4) (hS.notOwn h4 ⟨fun _ _ _ e => (by cases e), fun _ _ e => (by cases e)⟩) (.inl rfl)]
    exact h4

structure Cok (cx : Cx) (nt : Nat) (OI : Gh → Prop) (s0 : Nat) (G : Gh) (fr : List AV) (a : Act) : Prop where
  st : StRel G
  oi : OI G
  fr : FRel G fr (valOf cx.ann.pos a)
  tm : a.tmps.size = nt
  mks : Marks s0 G a.defers
  df : cx.yield.isSome = true → a.defers = []
  lo : s0 ≤ G.w.heap.size
def exitOf : AExit → Exit
  | .normal => .normal
  | .exit i => .exit i
  | .ret => .ret
/-- what the machine says of a piece of code is true -/
def FOk (P : Program) (cx : Cx) (nt : Nat) (OI : Gh → Prop) (ro : Option Nat) (s0 : Nat) (f : List AV → Heap → ARes) (c : Code) : Prop :=
  ∀ fr H e fr' H', f fr H = some (e, fr', H') → ∀ (G : Gh) (a : Act), G.H = H → YRel P cx.yield G.yl OI → Cok cx nt OI s0 G fr a →
    ∀ (Q : Exit → Act → World → Prop), (∀ a' G2, AStep (Keeps cx.gc cx.nL) cx.yield.isSome G G2 → G2.H = H' → Cok cx nt OI s0 G2 fr' a' → Q (exitOf e) a' G2.w) → c.wpIn (wideR ro) 0 P Q a G.w

variable {cx : Cx} {nt s0 : Nat} {OI : Gh → Prop} {ro : Option Nat}
theorem Marks.any {G G2 : Gh} {N : Nat → Prop} {a a' : Act} (hC : Marks s0 G a.defers) (hd : cx.yield.isSome = true → a.defers = []) (hS : StRel G) (h : AStep N cx.yield.isSome G G2) (hda : a'.defers = a.defers) : Marks s0 G2 a'.defers := by
  rw [hda]
  cases hy : cx.yield.isSome with
  | true => rw [hd hy]; trivial
  | false => rw [hy] at h; exact hC.step hS h

/-! ### a world that is the same but for its book-keeping -/
theorem reW {N : Nat → Prop} {y : Bool} {G : Gh} (hS : StRel G) {w : World} (hh : w.heap = G.w.heap) (ho : w.os = G.w.os) (ht : w.tape = G.w.tape) (hu : w.output = G.w.output) : AStep N y G { G with w := w } := by
  have hM : ∀ B, (Gh.M { G with w := w } B) → G.M B := fun B h => h
  have hb : ∀ B, bsz w B = bsz G.w B := fun B => by unfold bsz; rw [hh]
  have he : Ext G { G with w := w } := {
    size := by show _ ≤ w.heap.size; rw [hh]; exact Nat.le_refl _
    still := fun B _ hn => ⟨fun q => hn (hM B q), by show w.heap[B]? = _; rw [hh]⟩
    next := by rintro b g b' g' ha e; cases e; exact ha
    cells := by rintro b b' g' cs' _ e h; cases e; exact ⟨cs', h, rfl⟩
    rows := by rintro b g b' g' sz p es' _ e h; cases e; exact ⟨p, es', h, rfl, rfl, fun B _ => by show _ ≤ bsz w B; rw [hb]; exact Nat.le_refl _⟩
    maps := by rintro b b' g' ks vs _ e h; cases e; exact ⟨ks, vs, h, rfl⟩
    yl := .inr rfl
    zero := by rintro b b' g' _ e h; cases e; exact h }
  exact {
    st := {
      next := hS.next
      here := hS.here
      gen := hS.gen
      blk := fun b x h => (hS.blk b x h).mv he rfl (fun _ _ _ q => q) (fun B _ _ => by show w.heap[B]? = _; rw [hh])
      inj := hS.inj
      low := fun B q => by show B < w.heap.size; rw [hh]; exact hS.low B q }
    size := by show _ ≤ w.heap.size; rw [hh]; exact Nat.le_refl _
    F1 := fun _ q => q
    F2 := fun _ q => .inl q
    yl := rfl
    outer := fun _ => rfl
    os := ho, tape := ht, output := hu
    far := fun B _ _ _ => by show w.heap[B]? = _; rw [hh]
    rng := fun b x B h hi => .inl ⟨b, x, h, hi⟩
    A := fun b g _ h => h
    cells := fun b cs' _ _ h => ⟨cs', h, rfl⟩
    rows := fun b g sz p es' _ _ h => ⟨p, es', h, rfl, rfl, fun B _ => by show _ ≤ bsz w B; rw [hb]; exact Nat.le_refl _⟩
    maps := fun b ks vs _ _ h => ⟨ks, vs, h, rfl⟩
    kind := fun b g sz p es' g1 _ _ h => ⟨g, sz, p, es', h, Nat.le_refl _⟩ }

/-! ### slots frozen ahead of a region -/
theorem setObj_same {w : World} {B : Nat} {o : Obj} (h : w.heap[B]? = some o) : setObj w B o = w := by
  have : w.heap.setIfInBounds B o = w.heap := by
    apply Array.ext_getElem?
    intro k
    rw [Array.getElem?_setIfInBounds]
    split
    · rename_i hk; subst hk; rw [if_pos (lt_of_heap h)]; exact h.symm
    · rfl
  simp [setObj, this]
theorem frzEls_sound {nL : Nat} : ∀ (es : List AV) (cv : Nat → Value) {G : Gh}, StRel G → (∀ (i : Nat) e, es[i]? = some e → VRel G e (cv i)) →
    ∃ G2, LStep G G2 ∧ G2.w = G.w ∧ G2.H = (frzEls nL es G.H).2 ∧ G2.ι = G.ι ∧ (∀ b, G2.H.get b = G.H.get b ∨ G2.H.get b = none) ∧ (frzEls nL es G.H).1.length = es.length ∧ ∀ (i : Nat) e, (frzEls nL es G.H).1[i]? = some e → VRel G2 e (cv i)
  | [], cv, G, hS, h => ⟨G, .refl hS, rfl, rfl, rfl, fun _ => .inl rfl, rfl, by simp [frzEls]⟩
  | e :: r, cv, G, hS, h => by
    obtain ⟨G1, h1, h2, h3, _, h5, h6⟩ := pFrz_sound (nL := nL) hS (h 0 e rfl)
    obtain ⟨G2, k1, k2, k3, k4, k5, k6, k7⟩ := frzEls_sound (nL := nL) r (fun i => cv (i + 1)) h1.st (fun i x hx => (h (i + 1) x hx).ext h1.ext)
    rw [h3] at k3 k6 k7
    have hd : ∀ b, G1.H.get b = G.H.get b ∨ G1.H.get b = none := by
      intro b
      rw [h3]
      unfold pFrz
      split
      · exact .inl rfl
      · simp only [get_drop]
        split
        · exact .inr rfl
        · exact .inl rfl
    refine ⟨G2, h1.trans k1, k2.trans h2, k3, k4.trans h5, fun b => ?_, by simp [frzEls, k6], fun i x hx => ?_⟩
    · rcases k5 b with q | q
      · rw [q]; exact hd b
      · exact .inr q
    · cases i with
      | zero =>
        simp only [frzEls, List.getElem?_cons_zero, Option.some.injEq] at hx
        subst hx
        exact h6.ext k1.ext
      | succ i => exact k7 i x (by simpa [frzEls] using hx)
theorem one_cells {e : AV} (h : e.one = true) : e.cells = [e] := by cases e <;> simp_all [AV.one, AV.cells]
theorem frzRow_sound {G : Gh} {nL : Nat} {v : AV} {c : Value} (hS : StRel G) (hv : VRel G v c) : ∃ G1, G1.w = G.w ∧ AStep (fun _ => True) false G G1 ∧ G1.H = frzRow nL v G.H := by
  have hid : ∃ G1, G1.w = G.w ∧ AStep (fun _ => True) false G G1 ∧ G1.H = G.H := ⟨G, rfl, .refl hS, rfl⟩
  unfold frzRow
  split
  · rename_i b g
    split
    · rename_i g' p es hb
      split
      · rename_i hc
        simp only [Bool.and_eq_true, List.all_eq_true, Bool.not_eq_true'] at hc
        obtain ⟨⟨⟨hc1, hc2⟩, hc3⟩, hc4⟩ := hc
        obtain ⟨⟨_, hrow⟩, hblk⟩ := hS.blk _ _ hb
        rcases hblk with ⟨_, rfl⟩ | ⟨B, hi, hlt, hF, ar, el, hw, hsz, hr⟩
        · simp at hc2
        · have hel : ∀ (i : Nat) e, es[i]? = some e → VRel G e (ar[i]?.getD default) := by
            intro i e he
            have hil := (List.getElem?_eq_some_iff.1 he).1
            have hv := get_some_of (vs := ar) (i := i) (by omega)
            have e1 : ar[i]?.getD default = ar[i] := by rw [hv]; rfl
            rw [e1]
            refine hr i e 0 e _ he ?_ (by simp)
            rw [one_cells (hc3 e (List.mem_of_getElem? he))]; rfl
          obtain ⟨G2, k1, k2, k3, k4, k5, k6, k7⟩ := frzEls_sound (nL := nL) es (fun i => ar[i]?.getD default) hS hel
          have hb2 : G2.H.get b = some (.sl g' 1 p es) := by
            rcases k5 b with q | q
            · rw [q]; exact hb
            · rw [← k3, q] at hc1; simp at hc1
          have hi2 : G2.ι b = some B := by rw [k4]; exact hi
          have hw2 : G2.w.heap[B]? = some (.cells ar el (0, 0)) := by rw [k2]; exact hw
          have hput := LStep.put (x' := .sl g' 1 (AV.refFreeL (frzEls nL es G.H).1) (frzEls nL es G.H).1) (o := .cells ar el (0, 0)) k1.st hb2 hi2 ⟨rfl, rfl, k6.symm⟩ (fun _ _ _ _ _ => by rw [setObj_same hw2]; exact Nat.le_refl _) (fun he => by
            refine ⟨⟨Nat.zero_lt_one, fun i x hx => ?_⟩, .inr ⟨B, hi2, ?_, ?_, ar, el, ?_, by rw [k6]; exact hsz, fun i x j y u hx hy hu => ?_⟩⟩
            · have h1 := hc4 x (List.mem_of_getElem? hx)
              rw [one_cells h1]
              exact ⟨rfl, by simpa using h1, fun hp => AV.refFreeL_iff.1 hp x (List.mem_of_getElem? hx)⟩
            · show B < (setObj G2.w B _).heap.size
              rw [size_setObj]; exact lt_of_heap hw2
            · exact (k1.st.live hb2 hi2).2
            · show (setObj G2.w B _).heap[B]? = _
              rw [setObj_same hw2]; exact hw2
            · have h1 := hc4 x (List.mem_of_getElem? hx)
              rw [one_cells h1] at hy
              cases j with
              | succ j => simp at hy
              | zero =>
                simp at hy; subst hy
                have hu' : ar[i]? = some u := by simpa using hu
                have := k7 i x hx
                rw [hu'] at this
                exact this.ext he)
          refine ⟨_, ?_, (k1.trans hput).a, by show (G2.H.put b _) = _; rw [k3]⟩
          show setObj G2.w B _ = _
          rw [setObj_same hw2, k2]
      · exact hid
    · exact hid
  · exact hid
theorem frzSlot_sound {G : Gh} {a : Act} {nL : Nat} {pos : List Nat} {fr : List AV} {t : Nat} (hS : StRel G) (hfr : FRel G fr (valOf pos a)) :
    ∃ G1, G1.w = G.w ∧ AStep (fun _ => True) false G G1 ∧ G1.H = (frzSlot nL pos fr G.H t).2 ∧ FRel G1 (frzSlot nL pos fr G.H t).1 (valOf pos a) := by
  have hval : ∀ (t i : Nat), pos.idxOf? t = some i → VRel G (fr.getD i .undef) (a.eval (.tmp t)) := by
    intro t i hi
    rw [List.getD_eq_getElem?_getD]
    cases hf : fr[i]? with
    | none => exact .undef _
    | some u => exact hfr i u _ hf (by simp [valOf, idxOf_some hi])
  unfold frzSlot
  split
  · cases hi : pos.idxOf? (t - 1000000) with
    | none => exact ⟨G, rfl, .refl hS, rfl, hfr⟩
    | some i =>
      simp only
      obtain ⟨G1, hw, hst, hH⟩ := frzRow_sound (nL := nL) hS (hval _ _ hi)
      exact ⟨G1, hw, hst, hH, hfr.ext hst.ext⟩
  cases hi : pos.idxOf? t with
  | none => exact ⟨G, rfl, .refl hS, rfl, hfr⟩
  | some i =>
    simp only
    have hv := hval _ _ hi
    obtain ⟨G1, hL, hw, hH, _, _, hv1⟩ := pFrz_sound (nL := nL) hS hv
    refine ⟨G1, hw, hL.a, hH, fun j v c hj hc => ?_⟩
    rw [List.getElem?_set] at hj
    split at hj
    · rename_i hij
      subst hij
      split at hj
      · cases hj
        simp only [valOf, idxOf_some hi, Option.map_some, Option.some.injEq] at hc
        rw [← hc]; exact hv1
      · cases hj
    · exact (hfr j v c hj hc).ext hL.ext
theorem frzSlots_sound {a : Act} {nL : Nat} {pos : List Nat} : ∀ (l : List Nat) {G : Gh} {fr : List AV}, StRel G → FRel G fr (valOf pos a) →
    ∃ G1, G1.w = G.w ∧ AStep (fun _ => True) false G G1 ∧ G1.H = (frzSlots nL pos l fr G.H).2 ∧ FRel G1 (frzSlots nL pos l fr G.H).1 (valOf pos a)
  | [], G, fr, hS, hfr => ⟨G, rfl, .refl hS, rfl, hfr⟩
  | t :: r, G, fr, hS, hfr => by
    obtain ⟨G1, h1, h2, h3, h4⟩ := frzSlot_sound (nL := nL) (t := t) hS hfr
    obtain ⟨G2, k1, k2, k3, k4⟩ := frzSlots_sound r h2.st h4
    rw [h3] at k3 k4
    exact ⟨G2, k1.trans h1, h2.trans k2, k3, k4⟩

theorem keeps_of {gc : Bool} {nL : Nat} {y : Bool} {G G2 : Gh} (h : AStep (fun _ => True) y G G2) : AStep (Keeps gc nL) y G G2 := h.mono fun _ _ => trivial

/-! ### regions -/
theorem region0_ok (hP : cx.P = P) (hC : CallSpec P cx.call) (hO : OStab OI) (hmix : P.follows .mixedOrders = true) {rid : Nat} {ops : Array Oper} {draw : Bool} (hok : okCode nt (.region rid ops draw) = true) :
    FOk P cx nt OI ro s0 (aregion0 cx rid ops draw) (.region rid ops draw) := by
  intro fr H e fr' H' h G a hH hY hc Q hQ
  simp only [okCode, Bool.and_eq_true, List.all_eq_true] at hok
  have hds : ∀ o, o ∈ ops.toList → ∀ d, o.dst = some d → d < nt := by
    intro o ho d hd
    have := hok.1 o ho
    rw [hd] at this
    simpa using this
  unfold aregion0 at h
  cases draw with
  | false =>
    simp only [Bool.false_eq_true, if_false] at h
    obtain ⟨loc', H2, hK, hrest⟩ := aops_sound (ro := ro) (OI := OI) hP hC hO hds ops.toList 0 [] H rfl h
    simp only [fzL_eq, Option.some.injEq, Prod.mk.injEq] at hK
    obtain ⟨rfl, rfl, rfl⟩ := hK
    refine wpIn_region ?_
    have := hrest G a hH hY hc.st hc.oi (.start hc.fr) hc.tm Q fun a' G2 k1 k2 k3 k4 k5 k6 =>
      hQ a' G2 (keeps_of k1) k2 ⟨k1.st, k4, k3.expo, k5, Marks.any hc.mks hc.df hc.st k1 k6, fun q => (by rw [k6]; exact hc.df q), Nat.le_trans hc.lo k1.size⟩
    rwa [Array.length_toList, ← List.range_eq_range'] at this
  | true =>
    simp only [if_true] at h
    have hokd : okDraw ops (befs ops) = true := by simpa using hok.2
    subst hH
    obtain ⟨loc', H2, hK, hrest⟩ := aopsD_sound (cx := { cx with yield := none }) (P := P) (ro := ro) (OI := OI) (nt := nt) hP hC hO rfl hokd hds h
    simp only [fzL_eq, Option.some.injEq, Prod.mk.injEq] at hK
    obtain ⟨rfl, rfl, rfl⟩ := hK
    refine wpIn_region_any hmix ?_
    have h0 := reW (N := fun _ => True) (y := false) (G := G) (w := { G.w with drawn := G.w.drawn + 1 }) hc.st rfl rfl rfl rfl
    exact hrest { G with w := { G.w with drawn := G.w.drawn + 1 } } a rfl h0.st (hO _ _ _ hc.oi h0) ((Env.start hc.fr).ext h0.ext) hc.tm Q fun a' G2 k1 k2 k3 k4 k5 k6 => by
      have k1' : AStep (fun _ => True) cx.yield.isSome G G2 := (h0.trans k1).any (by simp)
      exact hQ a' G2 (keeps_of k1') k2 ⟨k1.st, k4, k3.expo, k5, Marks.any hc.mks hc.df hc.st k1' k6, fun q => (by rw [k6]; exact hc.df q), Nat.le_trans hc.lo k1'.size⟩
theorem FOk.after {f : List AV → Heap → ARes} {c : Code} (hO : OStab OI) (hf : FOk P cx nt OI ro s0 f c) {fr : List AV} {fr1 : List AV} {H1 : Heap} {e : AExit} {fr' : List AV} {H' : Heap} (h : f fr1 H1 = some (e, fr', H')) {G : Gh} {a : Act} (hY : YRel P cx.yield G.yl OI)
    (hc : Cok cx nt OI s0 G fr a) (hpre : ∃ G1, G1.w = G.w ∧ AStep (Keeps cx.gc cx.nL) false G G1 ∧ G1.H = H1 ∧ FRel G1 fr1 (valOf cx.ann.pos a)) {Q : Exit → Act → World → Prop}
    (hQ : ∀ a' G2, AStep (Keeps cx.gc cx.nL) cx.yield.isSome G G2 → G2.H = H' → Cok cx nt OI s0 G2 fr' a' → Q (exitOf e) a' G2.w) : c.wpIn (wideR ro) 0 P Q a G.w := by
  obtain ⟨G1, hw, hst, hH, hfr⟩ := hpre
  rw [← hw]
  exact hf fr1 H1 e fr' H' h G1 a hH (by rw [hst.yl]; exact hY) ⟨hst.st, hO _ _ _ hc.oi hst, hfr, hc.tm, hc.mks.step hc.st hst, hc.df, Nat.le_trans hc.lo hst.size⟩ Q fun a' G2 k1 k2 k3 => hQ a' G2 ((hst.any (by simp)).trans k1) k2 k3
theorem region_ok (hP : cx.P = P) (hC : CallSpec P cx.call) (hO : OStab OI) (hmix : P.follows .mixedOrders = true) {rid : Nat} {ops : Array Oper} {draw : Bool} (hok : okCode nt (.region rid ops draw) = true) :
    FOk P cx nt OI ro s0 (aregion cx rid ops draw) (.region rid ops draw) := by
  have h0 := region0_ok (ro := ro) (s0 := s0) (OI := OI) (nt := nt) hP hC hO hmix hok
  intro fr H e fr' H' h G a hH hY hc Q hQ
  unfold aregion at h
  split at h
  · rename_i l _
    subst hH
    obtain ⟨G1, k1, k2, k3, k4⟩ := frzSlots_sound (nL := cx.nL) l hc.st hc.fr
    exact h0.after (fr := fr) hO h hY hc ⟨G1, k1, keeps_of k2, k3, k4⟩ hQ
  · exact h0 fr H e fr' H' h G a hH hY hc Q hQ

/-! ### sequences, branches, blocks -/
theorem seq_ok {f g : List AV → Heap → ARes} {x y : Code} (hf : FOk P cx nt OI ro s0 f x) (hg : FOk P cx nt OI ro s0 g y) : FOk P cx nt OI ro s0 (seqX f g) (.seq x y) := by
  intro fr H e fr' H' h G a hH hY hc Q hQ
  unfold seqX at h
  refine wpIn_seq ?_
  split at h
  · rename_i fr1 H1 h1
    refine hf fr H _ fr1 H1 h1 G a hH hY hc _ fun a1 G1 k1 k2 k3 => ?_
    refine hg fr1 H1 e fr' H' h G1 a1 k2 (by rw [k1.yl]; exact hY) k3 Q fun a2 G2 j1 j2 j3 => hQ a2 G2 (k1.trans j1) j2 j3
  · rename_i hn
    refine hf fr H e fr' H' h G a hH hY hc _ fun a1 G1 k1 k2 k3 => ?_
    cases e with
    | normal => exact absurd h (hn _ _)
    | exit i => exact hQ a1 G1 k1 k2 k3
    | ret => exact hQ a1 G1 k1 k2 k3
theorem cond_ok {f g : List AV → Heap → ARes} {c : Operand} {x y : Code} (hf : FOk P cx nt OI ro s0 f x) (hg : FOk P cx nt OI ro s0 g y) : FOk P cx nt OI ro s0 (fun fr H => condX (evalA cx.ann.pos fr [] c) f g fr H) (.cond c x y) := by
  intro fr H e fr' H' h G a hH hY hc Q hQ
  simp only [condX] at h
  have hv := (Env.start hc.fr).eval c
  split at h
  · rename_i b hb
    rw [hb] at hv
    generalize he : a.eval c = v at hv
    cases hv
    refine wpIn_cond he ?_
    cases b with
    | true => exact hf fr H e fr' H' (by simpa using h) G a hH hY hc Q hQ
    | false => exact hg fr H e fr' H' (by simpa using h) G a hH hY hc Q hQ
  · cases h
theorem block_ok {f : List AV → Heap → ARes} {id : Nat} {x : Code} (hf : FOk P cx nt OI ro s0 f x) : FOk P cx nt OI ro s0 (blockX id f) (.block id x) := by
  intro fr H e fr' H' h G a hH hY hc Q hQ
  unfold blockX at h
  refine wpIn_block ?_
  split at h
  · rename_i i fr1 H1 h1
    refine hf fr H _ fr1 H1 h1 G a hH hY hc _ fun a1 G1 k1 k2 k3 => ?_
    simp only [exitOf, Exit.inBlock]
    split at h
    · rename_i hi
      cases h
      rw [if_pos hi]; exact hQ a1 G1 k1 k2 k3
    · rename_i hi
      cases h
      rw [if_neg hi]; exact hQ a1 G1 k1 k2 k3
  · rename_i hn
    refine hf fr H e fr' H' h G a hH hY hc _ fun a1 G1 k1 k2 k3 => ?_
    cases e with
    | normal => exact hQ a1 G1 k1 k2 k3
    | exit i => exact absurd h (hn _ _ _)
    | ret => exact hQ a1 G1 k1 k2 k3

theorem stepR_scope {b : Frame} {a : Act} {k : List Item} {cs : List Frame} {w : World} {c : Code} : step P (lone (b.atR a (.code (.scope c) :: k)) cs w) = .next (lone (b.atR a (.code c :: .inScope c :: k)) cs w) :=
  step_lone_go (by simp [stepG, stepG.exec, Frame.atR])
theorem stepR_inScope {b : Frame} {a : Act} {k : List Item} {cs : List Frame} {w : World} {c : Code} : step P (lone (b.atR a (.inScope c :: k)) cs w) = .next (lone (b.atR a k) cs w) :=
  step_lone_go (by simp [stepG, stepG.exec, Frame.atR])
def noGo (Q : Exit → Act → World → Prop) : Exit → Act → World → Prop
  | .goto _, _, _ => False
  | e, a, w => Q e a w
theorem wpIn_scope {F : Fence} {n : Nat} {Q : Exit → Act → World → Prop} {a : Act} {w : World} {c : Code} (h : c.wpIn F n P (noGo Q) a w) : (Code.scope c).wpIn F n P Q a w := by
  intro b k cs hro hb hr
  have h0 : (lone (b.atR a (.code (.scope c) :: k)) cs w).fenced P F := fenced_calm hb hr rfl
  obtain ⟨e, a1, w1, hq, harr⟩ := h b (.inScope c :: k) cs hro hb hr
  cases e with
  | normal => exact ⟨.normal, a1, w1, hq, .head h0 stepR_scope (StepsIn.trans harr (.one (fenced_calm hb hr rfl) stepR_inScope))⟩
  | goto l => exact hq.elim
  | exit id => exact ⟨.exit id, a1, w1, hq, .of_steps (.one h0 stepR_scope) ⟨fun k' hk => harr.1 k' (by simp [exitTo, hk]), fun hr hk => harr.2 hr (by simp [exitTo, hk])⟩⟩
  | ret => exact ⟨_, a1, w1, hq, .of_steps (.one h0 stepR_scope) harr⟩
  | panic ch => exact ⟨_, a1, w1, hq, .of_steps (.one h0 stepR_scope) harr⟩
  | outgrown => exact ⟨_, a1, w1, hq, .of_steps (.one h0 stepR_scope) harr⟩
theorem scope_ok {f : List AV → Heap → ARes} {x : Code} (hf : FOk P cx nt OI ro s0 f x) : FOk P cx nt OI ro s0 f (.scope x) := by
  intro fr H e fr' H' h G a hH hY hc Q hQ
  refine wpIn_scope (hf fr H e fr' H' h G a hH hY hc _ fun a1 G1 k1 k2 k3 => ?_)
  cases e <;> exact hQ a1 G1 k1 k2 k3

/-! ### loops -/
theorem exists_least {p : Nat → Prop} : ∀ k, p k → ∃ n, p n ∧ ∀ j, p j → n ≤ j := by
  intro k
  induction k using Nat.strongRecOn with
  | ind k ih =>
    intro hk
    by_cases h : ∃ j, j < k ∧ p j
    · obtain ⟨j, hj, hp⟩ := h; exact ih j hj hp
    · exact ⟨k, hk, fun j hj => by
        rcases Nat.lt_or_ge j k with q | q
        · exact absurd ⟨j, q, hj⟩ h
        · exact q⟩
open Classical in
noncomputable def least (p : Nat → Prop) : Nat := if h : ∃ k, p k then Classical.choose (exists_least (Classical.choose h) (Classical.choose_spec h)) else 0
theorem least_spec {p : Nat → Prop} {k : Nat} (h : p k) : p (least p) ∧ ∀ j, p j → least p ≤ j := by
  have hex : ∃ k, p k := ⟨k, h⟩
  unfold least
  rw [dif_pos hex]
  exact Classical.choose_spec (exists_least (Classical.choose hex) (Classical.choose_spec hex))
theorem loop_ok (hO : OStab OI) {f : List AV → Heap → ARes} {x : Code} (hf : FOk P cx nt OI ro s0 f x) (keep : List Bool) (k : Nat) : FOk P cx nt OI ro s0 (loopX f cx.gc cx.nL keep k) (.loop x) := by
  intro fr H e fr' H' h G a hH hY hc Q hQ
  let J : Act → World → Nat → Prop := fun a1 w1 m => ∃ G1 fr1, G1.w = w1 ∧ AStep (Keeps cx.gc cx.nL) cx.yield.isSome G G1 ∧ Cok cx nt OI s0 G1 fr1 a1 ∧ loopX f cx.gc cx.nL keep m fr1 G1.H = some (e, fr', H')
  refine wpIn_loop (fun a1 w1 => ∃ m, J a1 w1 m) (fun a1 w1 => least (J a1 w1)) ⟨k, G, fr, rfl, .refl hc.st, hc, by rw [hH]; exact h⟩ ?_
  rintro a1 w1 ⟨m0, hm0⟩
  obtain ⟨hJ, _⟩ := least_spec (p := J a1 w1) hm0
  obtain ⟨G1, fr1, rfl, hst, hc1, hl⟩ := hJ
  generalize hm : least (J a1 G1.w) = m at hl
  cases m with
  | zero => simp [loopX] at hl
  | succ m =>
    simp only [loopX, fzP_eq] at hl
    have hY1 : YRel P cx.yield G1.yl OI := by rw [hst.yl]; exact hY
    obtain ⟨G2, c1, c2, c3, c4⟩ := canon_sound (gc := cx.gc) (nL := cx.nL) (keep := keep) hc1.st hc1.fr
    split at hl
    · rename_i fr2 H2 hb
      refine hf.after (fr := fr1) hO hb hY1 hc1 ⟨G2, c1, c2, c3, c4⟩ fun a3 G3 k1 k2 k3 => ?_
      subst k2
      have hJ3 : J a3 G3.w m := ⟨G3, fr2, rfl, hst.trans k1, k3, hl⟩
      exact ⟨⟨m, hJ3⟩, by have := (least_spec hJ3).2 m hJ3; omega⟩
    · rename_i hn
      refine hf.after (fr := fr1) hO hl hY1 hc1 ⟨G2, c1, c2, c3, c4⟩ fun a3 G3 k1 k2 k3 => ?_
      cases e with
      | normal => exact absurd hl (hn _ _)
      | exit i => exact hQ a3 G3 (hst.trans k1) k2 k3
      | ret => exact hQ a3 G3 (hst.trans k1) k2 k3
end code
end Go.Am
namespace Go.Am
section rangef
variable {P : Program}

/-- a value without references is what it was wherever what is frozen still lies -/
theorem VRel.free {G G2 : Gh} (hsize : G.w.heap.size ≤ G2.w.heap.size) (hstill : ∀ B, B < G.w.heap.size → ¬ G.M B → ¬ G2.M B ∧ G2.w.heap[B]? = G.w.heap[B]?) {a : AV} {v : Value} (h : VRel G a v) (hf : a.refFree = true) : VRel G2 a v := by
  induction h with
  | undef v => exact .undef v
  | bool b => exact .bool b
  | int k n => exact .int k n
  | str s => exact .str s
  | nilp => exact .nilp
  | nils => exact .nils
  | nilm => exact .nilm
  | nilf => exact .nilf
  | agg cs vs hl h ih =>
    have hf := AV.refFreeL_iff.1 (show AV.refFreeL cs = true by simpa [AV.refFree] using hf)
    exact .agg _ _ hl fun i c v hc hv => ih i c v hc hv (hf c (List.mem_of_getElem? hc))
  | tup cs vs hl h ih =>
    have hf := AV.refFreeL_iff.1 (show AV.refFreeL cs = true by simpa [AV.refFree] using hf)
    exact .tup _ _ hl fun i c v hc hv => ih i c v hc hv (hf c (List.mem_of_getElem? hc))
  | fn g a b fs cs hl hl' h h' ih ih' =>
    have hf : AV.refFreeL a = true ∧ AV.refFreeL b = true := by simpa [AV.refFree] using hf
    exact .fn _ _ _ _ _ hl hl' (fun i c v hc hv => ih i c v hc hv (AV.refFreeL_iff.1 hf.1 c (List.mem_of_getElem? hc))) (fun i c v hc hv => ih' i c v hc hv (AV.refFreeL_iff.1 hf.2 c (List.mem_of_getElem? hc)))
  | vs es a cap B off sz cv hcap ha hok hc hr ih =>
    rcases ha with ha | ⟨rfl, hM, hB⟩
    · have : es = [] := by simpa using ha
      subst this
      exact .vs [] a cap B off sz cv hcap (.inl rfl) (by simp) (by simp) (by simp)
    · refine .vs es _ cap B off sz cv hcap (.inr ⟨rfl, (hstill B hB hM).1, Nat.lt_of_lt_of_le hB hsize⟩) hok (fun i e j c h1 h2 => ?_) (fun i e j c h1 h2 => ?_)
      · rw [cell_same (hstill B hB hM).2]; exact hc i e j c h1 h2
      · exact ih i e j c h1 h2 (AV.refFree_cells (AV.okElem_free (hok i e h1).1) c (List.mem_of_getElem? h2))
  | es0 a => exact .es0 a
  | en a cap => exact .en a cap
  | ip cs off B o cv hM hB hok hc hr ih =>
    refine .ip cs off B o cv (hstill B hB hM).1 (Nat.lt_of_lt_of_le hB hsize) hok (fun j c h => ?_) (fun j c h => ?_)
    · rw [cell_same (hstill B hB hM).2]; exact hc j c h
    · exact ih j c h (AV.refFreeL_iff.1 hok c (List.mem_of_getElem? h))
  | fm ks vs r es clock hM hB hw hk hv hok hok' h h' ih ih' =>
    exact .fm ks vs r es clock (hstill r hB hM).1 (Nat.lt_of_lt_of_le hB hsize) ((hstill r hB hM).2.trans hw) hk hv hok hok' (fun i k e h1 h2 => ih i k e h1 h2 (AV.refFreeL_iff.1 hok k (List.mem_of_getElem? h1))) (fun i k e h1 h2 => ih' i k e h1 h2 (AV.refFreeL_iff.1 hok' k (List.mem_of_getElem? h1)))
  | hp b off v hb h1 h => simp [AV.refFree] at hf
  | hs b g v hb h1 h => simp [AV.refFree] at hf
  | hq b g o n v hb h1 h => simp [AV.refFree] at hf
  | he b g i off v hb h1 h => simp [AV.refFree] at hf
  | hm b v hb h1 h => simp [AV.refFree] at hf
  | yld l h => simp [AV.refFree] at hf
theorem ArgsRel.free {G G2 : Gh} (hsize : G.w.heap.size ≤ G2.w.heap.size) (hstill : ∀ B, B < G.w.heap.size → ¬ G.M B → ¬ G2.M B ∧ G2.w.heap[B]? = G.w.heap[B]?) {a : List AV} {v : Array Value} (h : ArgsRel G a v) (hf : AV.refFreeL a = true) : ArgsRel G2 a v :=
  ⟨h.1, fun i x c hx hc => (h.2 i x c hx hc).free hsize hstill (AV.refFreeL_iff.1 hf x (List.mem_of_getElem? hx))⟩

/-! ### a foreign block turned -/
def notBlk (o : Obj) : Prop := (∀ c e z, o ≠ .cells c e z) ∧ ∀ es k, o ≠ .map es k
theorem bsz_put {w : World} {l : Nat} {o o' : Obj} (hl : w.heap[l]? = some o) (ho : notBlk o) (B : Nat) : bsz w B ≤ bsz (w.putObj l o') B := by
  by_cases h : B = l
  · subst h
    unfold bsz; rw [hl]
    cases o with
    | cells c e z => exact absurd rfl (ho.1 c e z)
    | _ => exact Nat.zero_le _
  · unfold bsz; rw [World.putObj_heap_other h]; exact Nat.le_refl _
theorem putF {N : Nat → Prop} {X : Gh} {l : Nat} {o o' : Obj} (hS : StRel X) (hF : X.F l) (hl : X.w.heap[l]? = some o) (ho : notBlk o) : AStep N true X { X with w := X.w.putObj l o' } := by
  have hno := hS.notOwn hl ho
  have he : Ext X { X with w := X.w.putObj l o' } := {
    size := by show _ ≤ (X.w.putObj l o').heap.size; rw [World.putObj_size]; exact Nat.le_refl _
    still := fun B _ hn => ⟨fun q => hn q, World.putObj_heap_other (by rintro rfl; exact hn (.inl hF))⟩
    next := by rintro b g b' g' ha e; cases e; exact ha
    cells := by rintro b b' g' cs' _ e h; cases e; exact ⟨cs', h, rfl⟩
    rows := by rintro b g b' g' sz p es' _ e h; cases e; exact ⟨p, es', h, rfl, rfl, fun B _ => bsz_put hl ho B⟩
    maps := by rintro b b' g' ks vs _ e h; cases e; exact ⟨ks, vs, h, rfl⟩
    yl := .inr rfl
    zero := by rintro b b' g' _ e h; cases e; exact h }
  exact {
    st := {
      next := hS.next
      here := hS.here
      gen := hS.gen
      blk := fun b x h => (hS.blk b x h).mv he rfl (fun _ _ _ q => q) (fun B hi _ => World.putObj_heap_other (by rintro rfl; exact hno b x h hi))
      inj := hS.inj
      low := fun B q => by show B < (X.w.putObj l o').heap.size; rw [World.putObj_size]; exact hS.low B q }
    size := by show _ ≤ (X.w.putObj l o').heap.size; rw [World.putObj_size]; exact Nat.le_refl _
    F1 := fun _ q => q
    F2 := fun _ q => .inl q
    yl := rfl
    outer := fun _ => rfl
    os := rfl, tape := rfl, output := rfl
    far := fun B _ _ hn => World.putObj_heap_other (by rintro rfl; exact hn.elim (fun e => by cases e) fun q => q hF)
    rng := fun b x B h hi => .inl ⟨b, x, h, hi⟩
    A := fun b g _ h => h
    cells := fun b cs' _ _ h => ⟨cs', h, rfl⟩
    rows := fun b g sz p es' _ _ h => ⟨p, es', h, rfl, rfl, fun B _ => bsz_put hl ho B⟩
    maps := fun b ks vs _ _ h => ⟨ks, vs, h, rfl⟩
    kind := fun b g sz p es' g1 _ _ h => ⟨g, sz, p, es', h, Nat.le_refl _⟩ }
/-- .. which lay not yet when the call began -/
theorem putF0 {N : Nat → Prop} {y : Bool} {G X : Gh} {l : Nat} {o o' : Obj} (h : AStep N y G X) (hF : X.F l) (hl : X.w.heap[l]? = some o) (ho : notBlk o) (hn : G.w.heap.size ≤ l) : AStep N y G { X with w := X.w.putObj l o' } := by
  have k := putF (N := N) (o' := o') h.st hF hl ho
  exact {
    st := k.st
    size := Nat.le_trans h.size k.size
    F1 := h.F1
    F2 := h.F2
    yl := h.yl
    outer := h.outer
    os := h.os, tape := h.tape, output := h.output
    far := fun B hB h1 h2 => (World.putObj_heap_other (by omega)).trans (h.far B hB h1 h2)
    rng := h.rng
    A := h.A
    cells := h.cells
    rows := fun b g sz p es' hb ha hc => by
      obtain ⟨p0, es0, h1, h2, h3, h4⟩ := h.rows b g sz p es' hb ha hc
      exact ⟨p0, es0, h1, h2, h3, fun B hB => Nat.le_trans (h4 B hB) (bsz_put hl ho B)⟩
    maps := h.maps
    kind := h.kind }

/-! ### parameters of a round -/
theorem fold_params : ∀ (ps : List Nat) (as : List AV) (cs : List Value) (tmps : Array Value), ps.Nodup → ps.length = as.length → ps.length = cs.length → (∀ p ∈ ps, p < tmps.size) → ∀ t,
    (match (ps.zip as).lookup t with
      | some v => ∃ (i : Nat) (c : Value), as[i]? = some v ∧ cs[i]? = some c ∧ ((ps.zip cs).foldl (fun (s : Array Value) q => s.setIfInBounds q.1 q.2) tmps)[t]? = some c
      | none => ((ps.zip cs).foldl (fun (s : Array Value) q => s.setIfInBounds q.1 q.2) tmps)[t]? = tmps[t]?)
  | [], as, cs, tmps, _, _, _, _, t => by simp
  | p :: ps, [], cs, tmps, _, h, _, _, t => by simp at h
  | p :: ps, a :: as, [], tmps, _, _, h, _, t => by simp at h
  | p :: ps, a :: as, c :: cs, tmps, hn, h1, h2, h3, t => by
    rw [List.nodup_cons] at hn
    have ih := fold_params ps as cs (tmps.setIfInBounds p c) hn.2 (by simpa using h1) (by simpa using h2) (fun q hq => by simp; exact h3 q (by simp [hq])) t
    simp only [List.zip_cons_cons, List.lookup_cons, List.foldl_cons]
    by_cases ht : t = p
    · subst ht
      simp only [beq_self_eq_true]
      have hno : (ps.zip as).lookup t = none := by
        rw [List.lookup_eq_none_iff]
        intro q hq
        have := (List.of_mem_zip (show (q.1, q.2) ∈ ps.zip as from hq)).1
        simp only [beq_eq_false_iff_ne, bne_iff_ne, ne_eq]
        intro e
        exact hn.1 (e ▸ this)
      rw [hno] at ih
      simp only at ih
      exact ⟨0, c, rfl, rfl, by rw [ih]; simp [h3 t (by simp)]⟩
    · have e : (t == p) = false := by simp [ht]
      rw [e]
      simp only
      cases hl : (ps.zip as).lookup t with
      | none =>
        rw [hl] at ih
        simp only at ih ⊢
        rw [ih, Array.getElem?_setIfInBounds_ne (Ne.symm ht)]
      | some v =>
        rw [hl] at ih
        simp only at ih ⊢
        obtain ⟨i, c', k1, k2, k3⟩ := ih
        exact ⟨i + 1, c', by simpa using k1, by simpa using k2, k3⟩
theorem fold_size : ∀ (l : List (Nat × Value)) (tmps : Array Value), (l.foldl (fun (s : Array Value) q => s.setIfInBounds q.1 q.2) tmps).size = tmps.size
  | [], _ => rfl
  | q :: r, tmps => by rw [List.foldl_cons, fold_size r]; simp
theorem setParams_rel {G : Gh} {pos : List Nat} {ps : Array Nat} {args : List AV} {cargs : Array Value} {fr : List AV} {a : Act} (hfr : FRel G fr (valOf pos a)) (hn : ps.toList.Nodup) (hl : ps.toList.length = args.length) (ha : ArgsRel G args cargs) (hlt : ∀ p ∈ ps.toList, p < a.tmps.size) :
    FRel G (setParams pos ps.toList args fr) (valOf pos { tmps := (ps.zip cargs).foldl (fun tmps (t, a) => tmps.setIfInBounds t a) a.tmps, defers := [] }) := by
  intro i v c hv hc
  simp only [setParams, expo] at hv
  rw [List.getElem?_map, Option.map_eq_some_iff] at hv
  obtain ⟨⟨t, u⟩, hq, rfl⟩ := hv
  rw [List.getElem?_zip_eq_some] at hq
  simp only [valOf, hq.1, Option.map_some, Option.some.injEq] at hc
  subst hc
  have hfold : ((ps.zip cargs).foldl (fun tmps (t, a) => tmps.setIfInBounds t a) a.tmps) = (ps.toList.zip cargs.toList).foldl (fun (s : Array Value) q => s.setIfInBounds q.1 q.2) a.tmps := by
    rw [← Array.foldl_toList, Array.toList_zip]
  have := fold_params ps.toList args cargs.toList a.tmps hn hl (by rw [hl]; simpa using ha.1) hlt t
  rw [hfold]
  simp only [Act.eval]
  cases hl : (ps.toList.zip args).lookup t with
  | none =>
    rw [hl] at this
    simp only at this
    simp only [Option.getD_none, Array.getD_eq_getD_getElem?]
    rw [this]
    have := hfr i u (a.eval (.tmp t)) hq.2 (by simp [valOf, hq.1])
    simpa [Act.eval, Array.getD_eq_getD_getElem?] using this
  | some w =>
    rw [hl] at this
    simp only at this
    obtain ⟨j, c, h1, h2, h3⟩ := this
    simp only [Option.getD_some, Array.getD_eq_getD_getElem?]
    rw [h3]
    exact ha.2 j w c h1 (by rw [← Array.getElem?_toList]; exact h2)
end rangef
end Go.Am
namespace Go.Am
section rangef
variable {P : Program}

/-- what the machine says of calls that yield is true -/
def CallYSpec (P : Program) (callY : YFn → FuncId → List AV → List OSt → Option (AV × List OSt)) : Prop :=
  ∀ Y f args outer v outer', callY Y f args outer = some (v, outer') → HasCode P f ∧
    ∀ (G0 : Gh) (l : Nat) (OI : Gh → Prop) (cargs : Array Value), StRel G0 → G0.H = { heapOf [] with outer := outer } → G0.yl = some l → OStab OI → OYield P Y l OI → OI G0 → ArgsRel G0 args cargs →
      CallsIn Fence.wide 0 P f cargs G0.w fun e w' => ∃ cv G1, e = .returned cv ∧ G1.w = w' ∧ G1.H.outer = outer' ∧ OI G1

def codeOf : AExit → Code
  | .ret => .ret
  | .exit i => .exit i
  | .normal => .skip
def stOf : Option AExit → LoopState × Option Code
  | none => (.ready, none)
  | some e => (.done, some (codeOf e))
/-- a loop's record -/
structure LRec where
  fn : FuncId
  tmps : Array Value
  params : Array Tmp
  asg : Code
  body : Code
  D : Nat
def LRec.obj (r : LRec) (st : LoopState) (pe : Option Code) : Obj := .loop { state := st, pending := pe, fn := r.fn, tmps := r.tmps, params := r.params, assign := r.asg, body := r.body, defers := r.D }
theorem LRec.not (r : LRec) (st : LoopState) (pe : Option Code) : notBlk (r.obj st pe) := ⟨fun _ _ _ e => (by cases e), fun _ _ e => (by cases e)⟩
def mine (G : Gh) (B : Nat) : Prop := ∃ b x, G.H.get b = some x ∧ G.ι b = some B

/-- what holds of the loop's own call (Gc: as it stood at the last round) while the function runs; Gs: as it stood ahead of the loop -/
structure RAt (r : LRec) (Gs G' Gc : Gh) (ex : Option AExit) : Prop where
  stc : StRel Gc
  st : StRel G'
  size : Gc.w.heap.size ≤ G'.w.heap.size
  out : G'.H.outer = ⟨Gc.H.next, Gc.H.bs, ex⟩ :: Gc.H.outer
  exn : ex ≠ some .normal
  step : AStep (fun _ => True) false Gs Gc
  still : ∀ B, B < Gc.w.heap.size → ¬ Gc.F B → G'.w.heap[B]? = Gc.w.heap[B]?
  own : ∀ B, mine Gc B → G'.F B
  own2 : ∀ B, mine G' B → Gc.F B ∨ Gc.w.heap.size ≤ B
  own0 : ∀ B, mine G' B → Gs.w.heap.size + 2 ≤ B
  Fs : ∀ B, Gs.F B ∨ B = Gs.w.heap.size ∨ B = Gs.w.heap.size + 1 → G'.F B ∧ Gc.F B
  far0 : ∀ B, B < Gs.w.heap.size → ¬ mine Gs B → G'.w.heap[B]? = Gs.w.heap[B]?
  rl : G'.w.heap[Gs.w.heap.size + 1]? = some (r.obj (stOf ex).1 (stOf ex).2)
  rD : G'.w.heap[Gs.w.heap.size]? = some (.deferred (some []))
  os : G'.w.os = Gs.w.os
  tape : G'.w.tape = Gs.w.tape
  output : G'.w.output = Gs.w.output
def RInv (r : LRec) (Gs : Gh) (G' : Gh) : Prop := ∃ Gc ex, RAt r Gs G' Gc ex

theorem far_mine {N : Nat → Prop} {G G2 : Gh} (h : AStep N false G G2) {B : Nat} (hB : B < G.w.heap.size) (hn : ¬ mine G B) : G2.w.heap[B]? = G.w.heap[B]? :=
  h.far B hB (fun b x hb hi => hn ⟨b, x, hb, hi⟩) (.inl rfl)
theorem rng_mine {N : Nat → Prop} {y : Bool} {G G2 : Gh} (h : AStep N y G G2) {B : Nat} (hm : mine G2 B) : mine G B ∨ G.w.heap.size ≤ B := by
  obtain ⟨b, x, hb, hi⟩ := hm
  rcases h.rng b x B hb hi with ⟨b0, x0, h0, h1⟩ | q
  · exact .inl ⟨b0, x0, h0, h1⟩
  · exact .inr q
theorem mine_live {G : Gh} (hS : StRel G) {B : Nat} (h : mine G B) : B < G.w.heap.size ∧ ¬ G.F B := by
  obtain ⟨b, x, hb, hi⟩ := h
  exact hS.live hb hi
theorem M_iff {G : Gh} {B : Nat} : G.M B ↔ G.F B ∨ mine G B := Iff.rfl
theorem not_mine {G : Gh} (hS : StRel G) {D : Nat} {o : Obj} (hD : G.w.heap[D]? = some o) (ho : notBlk o) : ¬ mine G D := by
  rintro ⟨b, x, hb, hi⟩
  exact hS.notOwn hD ho b x hb hi
theorem notBlk_def {ds : Option (List Deferred)} : notBlk (.deferred ds) := ⟨fun _ _ _ e => (by cases e), fun _ _ e => (by cases e)⟩

/-- the function's own steps keep it -/
theorem RInv.stab (r : LRec) (Gs : Gh) : OStab (RInv r Gs) := by
  rintro N G G2 ⟨Gc, ex, h⟩ hst
  refine ⟨Gc, ex, {
    stc := h.stc
    st := hst.st
    size := Nat.le_trans h.size hst.size
    out := (hst.outer rfl).trans h.out
    exn := h.exn
    step := h.step
    still := fun B hB hF => ?_
    own := fun B hm => hst.F1 B (h.own B hm)
    own2 := fun B hm => ?_
    own0 := fun B hm => ?_
    Fs := fun B hB => ⟨hst.F1 B (h.Fs B hB).1, (h.Fs B hB).2⟩
    far0 := fun B hB hn => ?_
    rl := (far_mine hst (lt_of_heap h.rl) (not_mine h.st h.rl (r.not _ _))).trans h.rl
    rD := (far_mine hst (lt_of_heap h.rD) (not_mine h.st h.rD notBlk_def)).trans h.rD
    os := hst.os.trans h.os
    tape := hst.tape.trans h.tape
    output := hst.output.trans h.output }⟩
  · refine (far_mine hst (Nat.lt_of_lt_of_le hB h.size) fun hm => ?_).trans (h.still B hB hF)
    rcases h.own2 B hm with q | q
    · exact hF q
    · omega
  · rcases rng_mine hst hm with q | q
    · exact h.own2 B q
    · have := h.size; exact .inr (by omega)
  · rcases rng_mine hst hm with q | q
    · exact h.own0 B q
    · have h1 := lt_of_heap h.rl; omega
  · refine (far_mine hst ?_ fun hm => ?_).trans (h.far0 B hB hn)
    · have h1 := h.step.size; have h2 := h.size; omega
    · have := h.own0 B hm; omega

/-- the loop's own call, as it stands now -/
def mkR (Gs G' Gc : Gh) : Gh := { w := G'.w, F := fun B => (Gs.F B ∨ B = Gs.w.heap.size ∨ B = Gs.w.heap.size + 1) ∨ mine G' B, ι := Gc.ι, A := Gc.A, H := Gc.H, yl := Gc.yl }
section mk
variable {r : LRec} {Gs G' Gc : Gh} {ex : Option AExit}
theorem mkR_F (h : RAt r Gs G' Gc ex) {B : Nat} (hF : (mkR Gs G' Gc).F B) : Gc.F B ∨ Gc.w.heap.size ≤ B := by
  rcases hF with q | q
  · exact .inl (h.Fs B q).2
  · exact h.own2 B q
theorem mkR_ext (h : RAt r Gs G' Gc ex) : Ext Gc (mkR Gs G' Gc) where
  size := h.size
  still B hB hM := by
    refine ⟨fun q => ?_, h.still B hB fun q => hM (.inl q)⟩
    rcases q with q | q
    · rcases mkR_F h q with q | q
      · exact hM (.inl q)
      · omega
    · exact hM (.inr q)
  next := by rintro b g b' g' ha e; cases e; exact ha
  cells := by rintro b b' g' cs' _ e h; cases e; exact ⟨cs', h, rfl⟩
  rows := by
    rintro b g b' g' sz p es' _ e hc; cases e
    refine ⟨p, es', hc, rfl, rfl, fun B hB => ?_⟩
    have := h.stc.live hc hB
    unfold bsz
    show _ ≤ (match G'.w.heap[B]? with | some (.cells c _ _) => c.size | _ => 0)
    rw [h.still B this.1 this.2]
    exact Nat.le_refl _
  maps := by rintro b b' g' ks vs _ e h; cases e; exact ⟨ks, vs, h, rfl⟩
  yl := .inr rfl
  zero := by rintro b b' g' _ e h; cases e; exact h
theorem mkR_st (h : RAt r Gs G' Gc ex) : StRel (mkR Gs G' Gc) where
  next := h.stc.next
  here := h.stc.here
  gen := h.stc.gen
  blk b x hb := (h.stc.blk b x hb).mv (mkR_ext h) rfl (fun B hi hB hF q => by
    rcases mkR_F h q with q | q
    · exact hF q
    · omega) (fun B hi hB => h.still B hB (h.stc.live hb hi).2)
  inj := h.stc.inj
  low B q := by
    rcases q with q | q
    · exact h.st.low B (h.Fs B q).1
    · exact (mine_live h.st q).1
theorem mkR_step (h : RAt r Gs G' Gc ex) : AStep (fun _ => True) false Gs (mkR Gs G' Gc) where
  st := mkR_st h
  size := Nat.le_trans h.step.size h.size
  F1 B q := .inl (.inl q)
  F2 B q := by
    rcases q with (q | q | q) | q
    · exact .inl q
    · exact .inr (by omega)
    · exact .inr (by omega)
    · have := h.own0 B q; exact .inr (by omega)
  yl := h.step.yl
  outer := h.step.outer
  os := h.os
  tape := h.tape
  output := h.output
  far B hB hn _ := h.far0 B hB (by rintro ⟨b, x, hb, hi⟩; exact hn b x hb hi)
  rng := h.step.rng
  A := h.step.A
  cells := h.step.cells
  rows b g sz p es' hb ha hc := by
    obtain ⟨p0, es0, h1, h2, h3, h4⟩ := h.step.rows b g sz p es' hb ha hc
    refine ⟨p0, es0, h1, h2, h3, fun B hB => Nat.le_trans (h4 B hB) ?_⟩
    have hi : Gc.ι b = some B := h3.trans hB
    have := h.stc.live hc hi
    show _ ≤ bsz G'.w B
    unfold bsz
    rw [h.still B this.1 this.2]
    exact Nat.le_refl _
  maps := h.step.maps
  kind := h.step.kind
/-- what the function hands over is read so in the loop's own call -/
theorem mkR_free (h : RAt r Gs G' Gc ex) (B : Nat) (_ : B < G'.w.heap.size) (hM : ¬ G'.M B) : ¬ (mkR Gs G' Gc).M B ∧ (mkR Gs G' Gc).w.heap[B]? = G'.w.heap[B]? := by
  refine ⟨fun q => ?_, rfl⟩
  rcases q with (q | q) | q
  · exact hM (.inl (h.Fs B q).1)
  · exact hM (.inr q)
  · exact hM (.inl (h.own B q))

/-- back in the function: its own blocks, behind a round -/
def mkY (G' G3 : Gh) (w : World) (out : List OSt) : Gh := { G' with w := w, F := fun B => G'.F B ∨ mine G3 B, H := { G'.H with outer := out } }
/-- a round's work, seen from the function -/
structure Rnd (r : LRec) (Gs G' Gc G3 : Gh) (ex : Option AExit) : Prop where
  step : AStep (fun _ => True) false Gs G3
  size : G'.w.heap.size ≤ G3.w.heap.size
  F : ∀ B, (mkR Gs G' Gc).F B → G3.F B
  own : ∀ B, mine G3 B → mine Gc B ∨ G'.w.heap.size ≤ B
  same : ∀ B, B < G'.w.heap.size → ¬ mine Gc B → B ≠ Gs.w.heap.size + 1 → G3.w.heap[B]? = G'.w.heap[B]?
  rl : G3.w.heap[Gs.w.heap.size + 1]? = some (r.obj (stOf ex).1 (stOf ex).2)
  os : G3.w.os = Gs.w.os
  tape : G3.w.tape = Gs.w.tape
  output : G3.w.output = Gs.w.output
theorem mkY_step {ex' : Option AExit} {G3 : Gh} {out : List OSt} (h : RAt r Gs G' Gc ex) (k : Rnd r Gs G' Gc G3 ex') : AStep (fun _ => True) true G' (mkY G' G3 G3.w out) := by
  have hl : G'.F (Gs.w.heap.size + 1) := (h.Fs _ (.inr (.inr rfl))).1
  have hnotmine : ∀ B, ¬ G'.F B → ¬ mine Gc B ∧ B ≠ Gs.w.heap.size + 1 := fun B hF => ⟨fun q => hF (h.own B q), by rintro rfl; exact hF hl⟩
  have hF : ∀ B, B < G'.w.heap.size → ¬ G'.F B → ¬ (mkY G' G3 G3.w out).F B := by
    intro B hB hF q
    rcases q with q | q
    · exact hF q
    · rcases k.own B q with q | q
      · exact hF (h.own B q)
      · omega
  have hsame : ∀ B, B < G'.w.heap.size → ¬ G'.F B → G3.w.heap[B]? = G'.w.heap[B]? := fun B hB hF => k.same B hB (hnotmine B hF).1 (hnotmine B hF).2
  have hbsz : ∀ b x B, G'.H.get b = some x → G'.ι b = some B → bsz G'.w B ≤ bsz G3.w B := by
    intro b x B hb hi
    have := h.st.live hb hi
    unfold bsz
    rw [hsame B this.1 this.2]
    exact Nat.le_refl _
  have he : Ext G' (mkY G' G3 G3.w out) := {
    size := k.size
    still := fun B hB hM => by
      refine ⟨fun q => ?_, hsame B hB fun q => hM (.inl q)⟩
      rcases q with q | q
      · exact hF B hB (fun q => hM (.inl q)) q
      · exact hM (.inr q)
    next := by rintro b g b' g' ha e; cases e; exact ha
    cells := by rintro b b' g' cs' _ e h; cases e; exact ⟨cs', h, rfl⟩
    rows := by rintro b g b' g' sz p es' _ e hc; cases e; exact ⟨p, es', hc, rfl, rfl, fun B hB => hbsz b _ B hc hB⟩
    maps := by rintro b b' g' ks vs _ e h; cases e; exact ⟨ks, vs, h, rfl⟩
    yl := .inr rfl
    zero := by rintro b b' g' _ e h; cases e; exact h }
  exact {
    st := {
      next := h.st.next
      here := h.st.here
      gen := h.st.gen
      blk := fun b x hb => (h.st.blk b x hb).mv he rfl (fun B _ hB hq => hF B hB hq) (fun B hi hB => hsame B hB (h.st.live hb hi).2)
      inj := h.st.inj
      low := fun B q => by
        rcases q with q | q
        · exact Nat.lt_of_lt_of_le (h.st.low B q) k.size
        · exact (mine_live k.step.st q).1 }
    size := k.size
    F1 := fun _ q => .inl q
    F2 := fun B q => by
      rcases q with q | q
      · exact .inl q
      · rcases k.own B q with q | q
        · exact .inl (h.own B q)
        · exact .inr q
    yl := rfl
    outer := fun e => by cases e
    os := k.os.trans h.os.symm
    tape := k.tape.trans h.tape.symm
    output := k.output.trans h.output.symm
    far := fun B hB hn hF => hsame B hB (hF.elim (fun e => by cases e) id)
    rng := fun b x B hb hi => .inl ⟨b, x, hb, hi⟩
    A := fun b g _ h => h
    cells := fun b cs' _ _ h => ⟨cs', h, rfl⟩
    rows := fun b g sz p es' _ _ hc => ⟨p, es', hc, rfl, rfl, fun B hB => hbsz b _ B hc hB⟩
    maps := fun b ks vs _ _ h => ⟨ks, vs, h, rfl⟩
    kind := fun b g sz p es' g1 _ _ h => ⟨g, sz, p, es', h, Nat.le_refl _⟩ }
theorem mkY_inv {ex' : Option AExit} {G3 : Gh} (h : RAt r Gs G' Gc ex) (k : Rnd r Gs G' Gc G3 ex') (hex : ex' ≠ some .normal) : RInv r Gs (mkY G' G3 G3.w (⟨G3.H.next, G3.H.bs, ex'⟩ :: G3.H.outer)) := by
  have hst := mkY_step (out := ⟨G3.H.next, G3.H.bs, ex'⟩ :: G3.H.outer) h k
  refine ⟨G3, ex', {
    stc := k.step.st
    st := hst.st
    size := Nat.le_refl _
    out := rfl
    exn := hex
    step := k.step
    still := fun _ _ _ => rfl
    own := fun B q => .inr q
    own2 := fun B q => .inl (k.F B (.inr q))
    own0 := h.own0
    Fs := fun B q => ⟨.inl (h.Fs B q).1, k.F B (.inl q)⟩
    far0 := fun B hB hn => far_mine k.step hB hn
    rl := k.rl
    rD := ?_
    os := k.os
    tape := k.tape
    output := k.output }⟩
  refine (k.same _ (lt_of_heap h.rD) (fun q => ?_) (by omega)).trans h.rD
  exact (mine_live h.stc q).2 ((h.Fs _ (.inr (.inl rfl))).2)
end mk
end rangef
end Go.Am
namespace Go.Am
section rangef
variable {P : Program} {cx : Cx} {nt : Nat} {OI : Gh → Prop}

theorem Marks.putF {s0 : Nat} {X : Gh} {l : Nat} {o o' : Obj} (hl : X.w.heap[l]? = some o) (ho : ∀ ds, o ≠ .deferred ds) : ∀ {ds : List Deferred}, Marks s0 X ds → Marks s0 { X with w := X.w.putObj l o' } ds
  | [], _ => trivial
  | d :: ds, ⟨⟨D, h1, h2, h3, h4, h5⟩, hr⟩ => by
    refine ⟨⟨D, h1, h2, h3, ?_, h5⟩, Marks.putF hl ho hr⟩
    refine (World.putObj_heap_other ?_).trans h4
    rintro rfl
    rw [hl] at h4; cases h4; exact ho _ rfl
theorem all_keeps {nL : Nat} {y : Bool} {G G2 : Gh} (h : AStep (Keeps false nL) y G G2) : AStep (fun _ => True) y G G2 := h.mono fun _ _ => .inl rfl

theorem round_ok {r : LRec} {fr : List AV} {Gs : Gh} (hO : OStab OI) (hy : cx.yield = none)
    (hA : ∀ ro, FOk P { cx with gc := false } nt OI ro 0 (arun { cx with gc := false } r.asg) r.asg) (hB : ∀ ro, FOk P { cx with gc := false } nt OI ro 0 (arun { cx with gc := false } r.body) r.body)
    (hOI : OI Gs) (hfr : FRel Gs fr (valOf cx.ann.pos { tmps := r.tmps, defers := [] })) (htm : r.tmps.size = nt) (hps : ∀ p ∈ r.params.toList, p < nt) (hnd : r.params.toList.Nodup) :
    OYield P (roundX (arun { cx with gc := false } r.asg) (arun { cx with gc := false } r.body) cx.ann.pos r.params.toList fr) (Gs.w.heap.size + 1) (RInv r Gs) := by
  intro G' args cargs b out hS' hinv hyl hfree hargs hY
  obtain ⟨Gc, ex, h⟩ := hinv
  rw [h.out] at hY
  cases ex with
  | some e => simp [roundX] at hY
  | none =>
    simp only [roundX] at hY
    split at hY
    · rename_i hlen
      split at hY
      · rename_i fr2 H2 hasg
        have hl : G'.w.heap[Gs.w.heap.size + 1]? = some (r.obj .ready none) := h.rl
        have hmk := mkR_step h
        have hargs' : ArgsRel (mkR Gs G' Gc) args cargs := ArgsRel.free (G := G') (G2 := mkR Gs G' Gc) (Nat.le_refl _) (mkR_free h) hargs hfree
        have hsz : cargs.size = r.params.size := by
          have := hargs.1
          rw [← this, ← hlen]; simp
        obtain ⟨e3, fr3, H3, hbody, hbo⟩ : ∃ e3 fr3 H3, arun { cx with gc := false } r.body fr2 H2 = some (e3, fr3, H3) ∧ ∃ ex' : Option AExit, ex' ≠ some .normal ∧ b = ex'.isNone ∧ out = ⟨H3.next, H3.bs, ex'⟩ :: H3.outer ∧
            ((e3 = .normal ∧ ex' = none) ∨ (e3 ≠ .normal ∧ ex' = some e3)) := by
          split at hY
          · rename_i fr3 H3 hb
            cases hY
            exact ⟨_, _, _, hb, none, by simp, rfl, rfl, .inl ⟨rfl, rfl⟩⟩
          · rename_i e3 fr3 H3 hn hb
            cases hY
            exact ⟨_, _, _, hb, some e3, fun e => hn (by cases e; rfl), rfl, rfl, .inr ⟨hn, rfl⟩⟩
          · cases hY
        obtain ⟨ex', hex', hb', hout, hcase⟩ := hbo
        have hyield := run_yield (P := P) (args := cargs) hl hsz
        refine ⟨r.fn, _, r.asg, r.body, G'.w, hyield, roundIn_of_wpIn trivial ?_⟩
        have hlt : Gs.w.heap.size + 1 < G'.w.heap.size := lt_of_heap hl
        refine hA (some (Gs.w.heap.size + 1)) _ _ _ _ _ hasg (mkR Gs G' Gc) { tmps := (r.params.zip cargs).foldl (fun tmps (t, a) => tmps.setIfInBounds t a) r.tmps, defers := [] } rfl (by intro Z hZ; rw [show ({ cx with gc := false } : Cx).yield = none from hy] at hZ; cases hZ)
          ⟨hmk.st, hO _ _ _ hOI hmk, setParams_rel (hfr.ext hmk.ext) hnd hlen hargs' (fun p hp => by rw [htm]; exact hps p hp), ?_, trivial, fun _ => rfl, Nat.zero_le _⟩ _ fun a2 G2 k1 k2 k3 => ?_
        · show ((r.params.zip cargs).foldl (fun tmps (q : Tmp × Value) => tmps.setIfInBounds q.1 q.2) r.tmps).size = nt
          rw [← Array.foldl_toList, fold_size]; exact htm
        · have k1 : AStep (fun _ => True) false (mkR Gs G' Gc) G2 := by
            have := all_keeps k1
            rw [show ({ cx with gc := false } : Cx).yield = none from hy] at this
            exact this
          have hl2 : G2.w.heap[Gs.w.heap.size + 1]? = some (r.obj .ready none) := (far_mine k1 hlt (not_mine (mkR_st h) hl (r.not _ _))).trans hl
          have hF2 : G2.F (Gs.w.heap.size + 1) := k1.F1 _ (.inl (.inr (.inr rfl)))
          have p2 := putF0 (o' := r.obj .busy none) (hmk.trans k1) hF2 hl2 (r.not _ _) (by omega)
          refine ⟨_, run_beginRound hl2 rfl, ?_⟩
          refine hB (some (Gs.w.heap.size + 1)) fr2 H2 e3 fr3 H3 hbody { G2 with w := G2.w.putObj (Gs.w.heap.size + 1) (r.obj .busy none) } a2 k2 (by intro Z hZ; rw [show ({ cx with gc := false } : Cx).yield = none from hy] at hZ; cases hZ)
            ⟨p2.st, hO _ _ _ hOI p2, k3.fr.ext (putF (N := fun _ => True) (o' := r.obj .busy none) k3.st hF2 hl2 (r.not _ _)).ext, k3.tm, k3.mks.putF hl2 (fun _ e => by cases e), k3.df, Nat.zero_le _⟩ _ fun a3 G3 j1 j2 j3 => ?_
          have j1 : AStep (fun _ => True) false { G2 with w := G2.w.putObj (Gs.w.heap.size + 1) (r.obj .busy none) } G3 := by
            have := all_keeps j1
            rw [show ({ cx with gc := false } : Cx).yield = none from hy] at this
            exact this
          have hlt2 : Gs.w.heap.size + 1 < G2.w.heap.size := lt_of_heap hl2
          have hl2b : (G2.w.putObj (Gs.w.heap.size + 1) (r.obj .busy none)).heap[Gs.w.heap.size + 1]? = some (r.obj .busy none) := World.putObj_heap_same hlt2
          have hl3 : G3.w.heap[Gs.w.heap.size + 1]? = some (r.obj .busy none) := (far_mine j1 (by show _ < (G2.w.putObj _ _).heap.size; rw [World.putObj_size]; exact hlt2) (not_mine p2.st hl2b (r.not _ _))).trans hl2b
          have hF3 : G3.F (Gs.w.heap.size + 1) := j1.F1 _ hF2
          have hlt3 : Gs.w.heap.size + 1 < G3.w.heap.size := lt_of_heap hl3
          -- the end of the round, whatever it is
          have fin : ∀ (jump : Option Code), jump = (stOf ex').2 → (stOf ex').1 = (if jump.isNone then .ready else .done) → jump.isNone = b →
              ∃ v w', (Instr.endRound (Gs.w.heap.size + 1) jump).run P G3.w = .ok v w' ∧ (Ending.returned v = .returned (.bool b) ∧ ∃ G2, G2.w = w' ∧ G2.H = { G'.H with outer := out } ∧ G2.A = G'.A ∧ AStep (fun _ => True) true G' G2 ∧ RInv r Gs G2) := by
            intro jump hj1 hj2 hj3
            have p3 := putF0 (o' := r.obj (stOf ex').1 (stOf ex').2) (p2.trans j1) hF3 hl3 (r.not _ _) (by omega)
            have k : Rnd r Gs G' Gc { G3 with w := G3.w.putObj (Gs.w.heap.size + 1) (r.obj (stOf ex').1 (stOf ex').2) } ex' := {
              step := p3
              size := by
                have h1 := k1.size
                have h2 := j1.size
                have h3 : (G2.w.putObj (Gs.w.heap.size + 1) (r.obj .busy none)).heap.size = G2.w.heap.size := World.putObj_size
                have h4 : (G3.w.putObj (Gs.w.heap.size + 1) (r.obj (stOf ex').1 (stOf ex').2)).heap.size = G3.w.heap.size := World.putObj_size
                have h5 : (mkR Gs G' Gc).w.heap.size = G'.w.heap.size := rfl
                show G'.w.heap.size ≤ (G3.w.putObj _ _).heap.size
                rw [h4]
                have h2' : (G2.w.putObj (Gs.w.heap.size + 1) (r.obj .busy none)).heap.size ≤ G3.w.heap.size := h2
                omega
              F := fun B q => j1.F1 B (k1.F1 B q)
              own := fun B q => by
                rcases rng_mine j1 (show mine G3 B from q) with q | q
                · rcases rng_mine k1 (show mine G2 B from q) with q | q
                  · exact .inl q
                  · exact .inr q
                · have h1 := k1.size
                  have h3 : (G2.w.putObj (Gs.w.heap.size + 1) (r.obj .busy none)).heap.size = G2.w.heap.size := World.putObj_size
                  have h5 : (mkR Gs G' Gc).w.heap.size = G'.w.heap.size := rfl
                  have q' : (G2.w.putObj (Gs.w.heap.size + 1) (r.obj .busy none)).heap.size ≤ B := q
                  exact .inr (by omega)
              same := fun B hB hm hne => by
                have h1 := k1.size
                have h5 : (mkR Gs G' Gc).w.heap.size = G'.w.heap.size := rfl
                have h3 : (G2.w.putObj (Gs.w.heap.size + 1) (r.obj .busy none)).heap.size = G2.w.heap.size := World.putObj_size
                have hm2 : ¬ mine G2 B := fun q => by
                  rcases rng_mine k1 q with q | q
                  · exact hm q
                  · omega
                refine (World.putObj_heap_other hne).trans ((far_mine j1 (by show B < (G2.w.putObj _ _).heap.size; omega) hm2).trans ((World.putObj_heap_other hne).trans (far_mine k1 hB hm)))
              rl := World.putObj_heap_same hlt3
              os := p3.os
              tape := p3.tape
              output := p3.output }
            have e1 := run_endRound (P := P) jump hl3
            refine ⟨_, _, e1, by rw [hj3], mkY G' { G3 with w := G3.w.putObj (Gs.w.heap.size + 1) (r.obj (stOf ex').1 (stOf ex').2) } (G3.w.putObj (Gs.w.heap.size + 1) (r.obj (stOf ex').1 (stOf ex').2)) out, ?_, rfl, rfl, mkY_step h k, ?_⟩
            · show G3.w.putObj _ _ = G3.w.putObj _ _
              rw [hj2, ← hj1]
              rfl
            · have := mkY_inv h k hex'
              rw [hout, ← j2]
              exact this
          rcases hcase with ⟨rfl, rfl⟩ | ⟨hne, rfl⟩
          · exact fin none rfl rfl (by rw [hb']; rfl)
          · cases e3 with
            | normal => exact absurd rfl hne
            | exit i => exact fin (some (.exit i)) rfl rfl (by rw [hb']; rfl)
            | ret => exact fin (some .ret) rfl rfl (by rw [hb']; rfl)
      · cases hY
    · cases hY
end rangef
end Go.Am
namespace Go.Am
section rangef
variable {P : Program} {cx : Cx} {nt s0 : Nat} {OI : Gh → Prop}

/-- ahead of the loop: its two blocks laid -/
def preW (w : World) (r : LRec) : World := (w.alloc (.deferred (some []))).alloc (r.obj .ready none)
theorem preW_old {w : World} {r : LRec} {B : Nat} (h : B < w.heap.size) : (preW w r).heap[B]? = w.heap[B]? := by
  show ((w.heap.push _).push _)[B]? = _
  rw [Array.getElem?_push_lt (by simp; omega), Array.getElem_push_lt h, Array.getElem?_eq_getElem h]
theorem preW_size {w : World} {r : LRec} : (preW w r).heap.size = w.heap.size + 2 := by
  show ((w.heap.push _).push _).size = _
  simp
theorem preW_D {w : World} {r : LRec} : (preW w r).heap[w.heap.size]? = some (.deferred (some [])) := by
  show ((w.heap.push _).push _)[w.heap.size]? = _
  rw [Array.getElem?_push_lt (by simp)]
  simp
theorem preW_l {w : World} {r : LRec} : (preW w r).heap[w.heap.size + 1]? = some (r.obj .ready none) := by
  show ((w.heap.push (.deferred (some []))).push (r.obj .ready none))[w.heap.size + 1]? = _
  have : w.heap.size + 1 = (w.heap.push (.deferred (some []))).size := by simp
  rw [this, Array.getElem?_push_size]
def preG (G : Gh) (r : LRec) : Gh := { G with w := preW G.w r, F := fun B => G.F B ∨ B = G.w.heap.size ∨ B = G.w.heap.size + 1 }
theorem preG_step {G : Gh} (hS : StRel G) (r : LRec) : AStep (fun _ => True) false G (preG G r) := by
  have hb : ∀ b x B, G.H.get b = some x → G.ι b = some B → bsz G.w B ≤ bsz (preW G.w r) B := by
    intro b x B hx hi
    unfold bsz
    rw [preW_old (hS.live hx hi).1]
    exact Nat.le_refl _
  have he : Ext G (preG G r) := {
    size := by show _ ≤ (preW G.w r).heap.size; rw [preW_size]; omega
    still := fun B hB hM => by
      refine ⟨fun q => ?_, preW_old hB⟩
      rcases q with (q | q | q) | q
      · exact hM (.inl q)
      · omega
      · omega
      · exact hM (.inr q)
    next := by rintro b g b' g' ha e; cases e; exact ha
    cells := by rintro b b' g' cs' _ e h; cases e; exact ⟨cs', h, rfl⟩
    rows := by rintro b g b' g' sz p es' _ e hc; cases e; exact ⟨p, es', hc, rfl, rfl, fun B hB => hb b _ B hc hB⟩
    maps := by rintro b b' g' ks vs _ e h; cases e; exact ⟨ks, vs, h, rfl⟩
    yl := .inr rfl
    zero := by rintro b b' g' _ e h; cases e; exact h }
  exact {
    st := {
      next := hS.next
      here := hS.here
      gen := hS.gen
      blk := fun b x h => (hS.blk b x h).mv he rfl (fun B _ hB hF q => by
        rcases q with q | q | q
        · exact hF q
        · omega
        · omega) (fun B _ hB => preW_old hB)
      inj := hS.inj
      low := fun B q => by
        show B < (preW G.w r).heap.size
        rw [preW_size]
        rcases q with q | q | q
        · have := hS.low B q; omega
        · omega
        · omega }
    size := he.size
    F1 := fun _ q => .inl q
    F2 := fun B q => by
      rcases q with q | q | q
      · exact .inl q
      · exact .inr (by omega)
      · exact .inr (by omega)
    yl := rfl
    outer := fun _ => rfl
    os := rfl, tape := rfl, output := rfl
    far := fun B hB _ _ => preW_old hB
    rng := fun b x B h hi => .inl ⟨b, x, h, hi⟩
    A := fun b g _ h => h
    cells := fun b cs' _ _ h => ⟨cs', h, rfl⟩
    rows := fun b g sz p es' _ _ hc => ⟨p, es', hc, rfl, rfl, fun B hB => hb b _ B hc hB⟩
    maps := fun b ks vs _ _ h => ⟨ks, vs, h, rfl⟩
    kind := fun b g sz p es' g1 _ _ h => ⟨g, sz, p, es', h, Nat.le_refl _⟩ }
/-- the function as it begins: all that the loop's call holds is foreign -/
def calleeG (G : Gh) (r : LRec) : Gh := { w := preW G.w r, F := fun B => (preG G r).M B, ι := fun _ => none, A := fun _ _ => False, H := { heapOf [] with outer := ⟨G.H.next, G.H.bs, none⟩ :: G.H.outer }, yl := some (G.w.heap.size + 1) }
theorem calleeG_get {G : Gh} {r : LRec} {b : Nat} {x : ABlk} : (calleeG G r).H.get b ≠ some x := by
  intro h
  have : (heapOf []).get b = some x := h
  rw [heapOf_nil] at this; cases this
theorem calleeG_mine {G : Gh} {r : LRec} {B : Nat} : ¬ mine (calleeG G r) B := by
  rintro ⟨b, x, hb, _⟩; exact calleeG_get hb
theorem calleeG_st {G : Gh} (hS : StRel G) (r : LRec) : StRel (calleeG G r) where
  next _ _ h := h.elim
  here b x h := absurd h calleeG_get
  gen b g sz p es g' h := absurd h calleeG_get
  blk b x h := absurd h calleeG_get
  inj b b' x x' B h := absurd h calleeG_get
  low B h := by
    rcases h with q | q
    · exact (preG_step hS r).st.low B q
    · exact (mine_live (preG_step hS r).st q).1
theorem calleeG_inv {G : Gh} (hS : StRel G) (r : LRec) : RInv r G (calleeG G r) := by
  have hp := preG_step hS r
  refine ⟨preG G r, none, {
    stc := hp.st
    st := calleeG_st hS r
    size := Nat.le_refl _
    out := rfl
    exn := by simp
    step := hp
    still := fun _ _ _ => rfl
    own := fun B q => .inr q
    own2 := fun B q => absurd q calleeG_mine
    own0 := fun B q => absurd q calleeG_mine
    Fs := fun B q => ⟨.inl q, q⟩
    far0 := fun B hB _ => preW_old hB
    rl := preW_l
    rD := preW_D
    os := rfl, tape := rfl, output := rfl }⟩
theorem calleeG_free {G : Gh} {r : LRec} (B : Nat) (hB : B < G.w.heap.size) (hM : ¬ G.M B) : ¬ (calleeG G r).M B ∧ (calleeG G r).w.heap[B]? = G.w.heap[B]? := by
  refine ⟨fun q => ?_, preW_old hB⟩
  rcases q with ((q | q | q) | q) | q
  · exact hM (.inl q)
  · omega
  · omega
  · exact hM (.inr q)
  · exact calleeG_mine q

theorem fnOf_some {f : AV} {q : FuncId × List AV × List AV} (h : fnOf f = some q) : f = .fn q.1 q.2.1 q.2.2 := by
  cases f <;> simp only [fnOf, Option.some.injEq, reduceCtorEq] at h
  subst h; rfl

/-- behind the function -/
theorem tail_ok {r : LRec} {G G1 Gc : Gh} {ex ex' : Option AExit} {fr : List AV} {a : Act} {nx : Nat} {bs : List (Nat × ABlk)} {rest : List OSt} {e : AExit} {cv : Value} (hO : OStab OI) (hy : cx.yield = none) (hc : Cok cx nt OI s0 G fr a) (k : RAt r G G1 Gc ex)
    (hH1 : G1.H.outer = ⟨nx, bs, ex'⟩ :: rest) (he : e = ex'.getD .normal) {Q : Exit → Act → World → Prop}
    (hQ : ∀ a' G2, AStep (Keeps cx.gc cx.nL) cx.yield.isSome G G2 → G2.H = ⟨nx, bs, rest⟩ → Cok cx nt OI s0 G2 fr a' → Q (exitOf e) a' G2.w) :
    rangePost (wideR none) 0 P (G.w.heap.size + 1) Q { a with defers := [{ target := .collected G.w.heap.size, args := #[] }] ++ a.defers } (.returned cv) G1.w := by
  have ho2 := k.out
  rw [hH1] at ho2
  obtain ⟨⟨rfl, rfl, rfl⟩, rfl⟩ : (nx = Gc.H.next ∧ bs = Gc.H.bs ∧ ex' = ex) ∧ rest = Gc.H.outer := by
    have := List.cons.inj ho2
    have h1 := this.1
    cases h1
    exact ⟨⟨rfl, rfl, rfl⟩, this.2⟩
  have hmk := mkR_step k
  have hS := hc.st
  have hF : (mkR G G1 Gc).F (G.w.heap.size + 1) := .inl (.inr (.inr rfl))
  have p := putF0 (o' := r.obj .exhausted (stOf ex').2) hmk hF k.rl (r.not _ _) (by omega)
  have hcok : Cok cx nt OI s0 { mkR G G1 Gc with w := G1.w.putObj (G.w.heap.size + 1) (r.obj .exhausted (stOf ex').2) } fr { a with defers := [{ target := .collected G.w.heap.size, args := #[] }] ++ a.defers } := {
    st := p.st
    oi := hO _ _ _ hc.oi p
    fr := hc.fr.ext p.ext
    tm := hc.tm
    mks := by
      refine ⟨⟨G.w.heap.size, rfl, hc.lo, .inl (.inr (.inl rfl)), (World.putObj_heap_other (by omega)).trans k.rD, fun d' hd' => ?_⟩, hc.mks.step hS p⟩
      have : ∀ ds : List Deferred, Marks s0 G ds → ∀ d' ∈ ds, d'.target ≠ .collected G.w.heap.size := by
        intro ds
        induction ds with
        | nil => intro _ d' h; simp at h
        | cons d ds ih =>
          rintro ⟨⟨D, h1, _, _, h4, _⟩, hr⟩ d' h
          rcases List.mem_cons.1 h with rfl | h
          · rw [h1]
            intro e
            cases e
            have := lt_of_heap h4
            omega
          · exact ih hr d' h
      exact this _ hc.mks d' hd'
    df := fun q => (by rw [hy] at q; cases q)
    lo := Nat.le_trans hc.lo p.size }
  have hend := hQ _ { mkR G G1 Gc with w := G1.w.putObj (G.w.heap.size + 1) (r.obj .exhausted (stOf ex').2) } (by rw [hy]; exact keeps_of p) rfl hcok
  have hbusy : (stOf ex').1 ≠ .busy := by cases ex' <;> simp [stOf]
  refine ⟨(stOf ex').2, _, run_endLoop k.rl hbusy, ?_⟩
  subst he
  cases hx : ex' with
  | none => subst hx; exact hend
  | some e3 =>
    subst hx
    cases e3 with
    | normal => exact absurd rfl k.exn
    | exit i => exact wpIn_exit hend
    | ret => exact wpIn_ret hend

theorem range_ok {g : Operand} {params : Array Tmp} {asg body : Code} (hO : OStab OI) (hCY : CallYSpec P cx.callY)
    (hA : ∀ ro, FOk P { cx with gc := false } nt OI ro 0 (arun { cx with gc := false } asg) asg) (hB : ∀ ro, FOk P { cx with gc := false } nt OI ro 0 (arun { cx with gc := false } body) body)
    (hps : ∀ p ∈ params.toList, p < nt) (hnd : params.toList.Nodup) (hy : cx.yield = none)
    {fr fr' : List AV} {H H' : Heap} {e : AExit} (h : rangeX cx.callY (evalA cx.ann.pos fr [] g) (roundX (arun { cx with gc := false } asg) (arun { cx with gc := false } body) cx.ann.pos params.toList fr) fr H = some (e, fr', H'))
    {G : Gh} {a : Act} (hH : G.H = H) (hc : Cok cx nt OI s0 G fr a) {Q : Exit → Act → World → Prop}
    (hQ : ∀ a' G2, AStep (Keeps cx.gc cx.nL) cx.yield.isSome G G2 → G2.H = H' → Cok cx nt OI s0 G2 fr' a' → Q (exitOf e) a' G2.w) : (Code.rangeFunc g params asg body).wpIn (wideR none) 0 P Q a G.w := by
  subst hH
  unfold rangeX at h
  obtain ⟨⟨f, q1, q2⟩, hfn, h⟩ := Option.bind_eq_some_iff.1 h
  have hfn := fnOf_some hfn
  simp only at hfn h
  have hgv := (Env.start hc.fr).eval g
  rw [hfn] at hgv
  generalize hge : a.eval g = gv at hgv
  cases hgv with
  | fn _ _ _ fs cs hl1 hl2 hr1 hr2 =>
    split at h
    · rename_i hfree
      simp only [Bool.and_eq_true] at hfree
      refine wpIn_rangeFunc fun fn _ => ?_
      obtain ⟨r, hr⟩ : ∃ r : LRec, r = ⟨fn, a.tmps, params, asg, body, G.w.heap.size⟩ := ⟨_, rfl⟩
      have hS := hc.st
      have hcapt : ArgsRel (calleeG G r) (q1 ++ [.yld] ++ q2) (fs ++ #[.func (.yield (G.w.heap.size + 1)) #[] #[]] ++ cs) := by
        refine ArgsRel.append (ArgsRel.append ?_ ?_) ?_
        · exact ArgsRel.free (G := G) (by show _ ≤ (preW G.w r).heap.size; rw [preW_size]; omega) calleeG_free ⟨hl1, hr1⟩ hfree.1
        · refine ⟨rfl, fun i u v hu hv => ?_⟩
          cases i with
          | zero => simp at hu hv; subst hu; subst hv; exact .yld _ rfl
          | succ i => simp at hu
        · exact ArgsRel.free (G := G) (by show _ ≤ (preW G.w r).heap.size; rw [preW_size]; omega) calleeG_free ⟨hl2, hr2⟩ hfree.2
      -- what comes back
      obtain ⟨v, out, hcall, hout⟩ : ∃ v out, cx.callY (roundX (arun { cx with gc := false } asg) (arun { cx with gc := false } body) cx.ann.pos params.toList fr) f (q1 ++ [.yld] ++ q2) (⟨G.H.next, G.H.bs, none⟩ :: G.H.outer) = some (v, out) ∧
          ∃ nx bs ex rest, out = ⟨nx, bs, ex⟩ :: rest ∧ fr' = fr ∧ H' = ⟨nx, bs, rest⟩ ∧ e = ex.getD .normal := by
        split at h
        · rename_i v nx bs rest hcall
          cases h
          exact ⟨v, _, hcall, nx, bs, none, rest, rfl, rfl, rfl, rfl⟩
        · rename_i v nx bs e' rest hcall
          cases h
          exact ⟨v, _, hcall, nx, bs, some _, rest, rfl, rfl, rfl, rfl⟩
        · cases h
      obtain ⟨⟨fd, hfd, hname, hbody⟩, hspec⟩ := hCY _ _ _ _ _ _ hcall
      have hround : OYield P (roundX (arun { cx with gc := false } asg) (arun { cx with gc := false } body) cx.ann.pos params.toList fr) (G.w.heap.size + 1) (RInv r G) := by
        have := round_ok (P := P) (cx := cx) (nt := nt) (OI := OI) (r := r) (fr := fr) (Gs := G) hO hy (by rw [hr]; exact hA) (by rw [hr]; exact hB) hc.oi (by rw [hr]; exact hc.fr) (by rw [hr]; exact hc.tm) (by rw [hr]; exact hps) (by rw [hr]; exact hnd)
        rw [hr] at this ⊢
        exact this
      have hcalls := hspec (calleeG G r) (G.w.heap.size + 1) (RInv r G) _ (calleeG_st hS r) rfl rfl (RInv.stab r G) hround (calleeG_inv hS r) hcapt
      have hbn : fd.body.isNone = false := by cases hb : fd.body <;> simp_all
      have h1 : (Instr.enterLoop fn a.tmps params asg body none).run P G.w = .ok (G.w.heap.size + 1, [{ target := .collected G.w.heap.size, args := #[] }]) (preW G.w r) := by
        rw [hr]; exact run_enterLoop_outer _ _ _ _ _
      have h2 : (resolve a.eval (rangeCall g (G.w.heap.size + 1)) 0).run P (preW G.w r) = .ok { target := .fn (.func f) cs, args := fs ++ #[.func (.yield (G.w.heap.size + 1)) #[] #[]] } (preW G.w r) := by
        simp only [resolve, hge, Deferred.ofValue, Sem.run_bind, Sem.run_pure, Result.andThen_ok]
        simp [Act.eval]
      have h3 : (invoke (.fn (.func f) cs) (fs ++ #[.func (.yield (G.w.heap.size + 1)) #[] #[]])).run P (preW G.w r) = .ok (.enter f (fs ++ #[.func (.yield (G.w.heap.size + 1)) #[] #[]] ++ cs)) (preW G.w r) := by
        simp only [invoke, callFunc, Sem.run_bind, run_program, hfd, hname, Bool.false_eq_true, if_false, hbn, Result.andThen_ok, Sem.run_pure]
      have h4 : CallsIn (wideR none) (0 - 1) P f (fs ++ #[.func (.yield (G.w.heap.size + 1)) #[] #[]] ++ cs) (preW G.w r) (rangePost (wideR none) 0 P (G.w.heap.size + 1) Q { a with defers := [{ target := .collected G.w.heap.size, args := #[] }] ++ a.defers }) := by
        refine callsIn_wideR (hcalls.mono ?_)
        rintro e2 w2 ⟨cv, G1, rfl, rfl, hH1, Gc, ex, k⟩
        obtain ⟨nx, bs, ex', rest, ho, rfl, rfl, he⟩ := hout
        exact tail_ok hO hy hc k (by rw [← ho]; exact hH1) he hQ
      exact ⟨_, _, _, _, _, _, _, _, h1, h2, fun _ _ => trivial, h3, fun q => (by simp [wideR, Fence.wide] at q), h4⟩
    · cases h

/-! ### all code -/
theorem arun_ok (hmix : P.follows .mixedOrders = true) (hO : OStab OI) : ∀ (c : Code) (cx : Cx) (ro : Option Nat) (s0 : Nat), cx.P = P → CallSpec P cx.call → CallYSpec P cx.callY → (cx.gc = true → ro = none) → okCode nt c = true → FOk P cx nt OI ro s0 (arun cx c) c
  | .skip, cx, ro, s0, _, _, _, _, _ => by
    intro fr H e fr' H' h G a hH _ hc Q hQ
    simp only [arun] at h; cases h
    exact wpIn_skip (hQ a G (.refl hc.st) hH hc)
  | .label l, cx, ro, s0, _, _, _, _, _ => by
    intro fr H e fr' H' h G a hH _ hc Q hQ
    simp only [arun] at h; cases h
    exact wpIn_label (hQ a G (.refl hc.st) hH hc)
  | .exit id, cx, ro, s0, _, _, _, _, _ => by
    intro fr H e fr' H' h G a hH _ hc Q hQ
    simp only [arun] at h; cases h
    exact wpIn_exit (hQ a G (.refl hc.st) hH hc)
  | .ret, cx, ro, s0, _, _, _, _, _ => by
    intro fr H e fr' H' h G a hH _ hc Q hQ
    simp only [arun] at h; cases h
    exact wpIn_ret (hQ a G (.refl hc.st) hH hc)
  | .goto _, cx, ro, s0, _, _, _, _, _ => by
    intro fr H e fr' H' h
    simp only [arun] at h; cases h
  | .refuse _, cx, ro, s0, _, _, _, _, _ => by
    intro fr H e fr' H' h
    simp only [arun] at h; cases h
  | .scope c, cx, ro, s0, h1, h2, h3, h4, h5 => by
    have := scope_ok (arun_ok hmix hO c cx ro s0 h1 h2 h3 h4 (by simpa [okCode] using h5))
    intro fr H e fr' H' h
    simp only [arun] at h
    exact this fr H e fr' H' h
  | .seq x y, cx, ro, s0, h1, h2, h3, h4, h5 => by
    simp only [okCode, Bool.and_eq_true] at h5
    have := seq_ok (arun_ok hmix hO x cx ro s0 h1 h2 h3 h4 h5.1) (arun_ok hmix hO y cx ro s0 h1 h2 h3 h4 h5.2)
    intro fr H e fr' H' h
    simp only [arun] at h
    exact this fr H e fr' H' h
  | .cond o x y, cx, ro, s0, h1, h2, h3, h4, h5 => by
    simp only [okCode, Bool.and_eq_true] at h5
    have := cond_ok (c := o) (arun_ok hmix hO x cx ro s0 h1 h2 h3 h4 h5.1) (arun_ok hmix hO y cx ro s0 h1 h2 h3 h4 h5.2)
    intro fr H e fr' H' h
    simp only [arun] at h
    exact this fr H e fr' H' h
  | .block id c, cx, ro, s0, h1, h2, h3, h4, h5 => by
    have := block_ok (id := id) (arun_ok hmix hO c cx ro s0 h1 h2 h3 h4 (by simpa [okCode] using h5))
    intro fr H e fr' H' h
    simp only [arun] at h
    exact this fr H e fr' H' h
  | .loop c, cx, ro, s0, h1, h2, h3, h4, h5 => by
    have := loop_ok hO (arun_ok hmix hO c cx ro s0 h1 h2 h3 h4 (by simpa [okCode] using h5)) (keepOf cx.ann (firstRegion c)) cx.k
    intro fr H e fr' H' h
    simp only [arun] at h
    exact this fr H e fr' H' h
  | .region id ops d, cx, ro, s0, h1, h2, h3, h4, h5 => by
    have := region_ok (ro := ro) (s0 := s0) h1 h2 hO hmix h5
    intro fr H e fr' H' h
    simp only [arun] at h
    exact this fr H e fr' H' h
  | .rangeFunc g ps asg body, cx, ro, s0, h1, h2, h3, h4, h5 => by
    simp only [okCode, Bool.and_eq_true, List.all_eq_true, decide_eq_true_eq] at h5
    obtain ⟨⟨⟨k1, k2⟩, k3⟩, k4⟩ := h5
    have hA := fun ro => arun_ok hmix hO asg { cx with gc := false } ro 0 h1 h2 h3 (fun q => by cases q) k3
    have hB := fun ro => arun_ok hmix hO body { cx with gc := false } ro 0 h1 h2 h3 (fun q => by cases q) k4
    intro fr H e fr' H' h G a hH hY hc Q hQ
    simp only [arun] at h
    split at h
    · cases h
    · rename_i hcond
      simp only [Bool.or_eq_true, not_or, Bool.not_eq_true, Bool.not_eq_false', Option.isSome_eq_false_iff, Option.isNone_iff_eq_none] at hcond
      have := h4 (by simpa using hcond.2)
      subst this
      exact range_ok hO h3 hA hB k1 k2 hcond.1 h hH hc hQ
end rangef
end Go.Am
namespace Go.Am
section calls
variable {P : Program}

/-! ### results -/
def resOf (tmps : Array Value) : ResultVar → Sem Value
  | .tmp t => pure (tmps.getD t undef)
  | .cell a t => do loadVar t (← asAddr (tmps.getD a undef))
theorem res1 {G : Gh} {pos : List Nat} {fr : List AV} {a : Act} (hS : StRel G) (hfr : FRel G fr (valOf pos a)) {r : ResultVar} {v : AV} (h : aresult P pos fr G.H r = some v) : ∃ u, (resOf a.tmps r).run P G.w = .ok u G.w ∧ VRel G v u := by
  cases r with
  | tmp t =>
    simp only [aresult, Option.some.injEq] at h
    subst h
    exact ⟨_, rfl, (Env.start hfr).eval (.tmp t)⟩
  | cell c t =>
    simp only [aresult] at h
    have hx := (Env.start hfr).eval (.tmp c)
    obtain ⟨u, h1, h2⟩ := pLoad_sound h hS hx
    refine ⟨u, ?_, h2⟩
    simp only [pLoad, Option.bind_eq_some_iff] at h
    obtain ⟨⟨cs, off⟩, hc, _⟩ := h
    obtain ⟨B, o, cv, he, _⟩ := cellsAt_sound hc hS hx
    have he' : a.tmps.getD c undef = .pointer (some ⟨B, o + off, none⟩) := he
    simp only [Instr.loadAt, he] at h1
    simp only [resOf, he', asAddr]
    simpa [Instr.sureAddr] using h1
theorem resN {G : Gh} {pos : List Nat} {fr : List AV} {a : Act} (hS : StRel G) (hfr : FRel G fr (valOf pos a)) : ∀ (l : List ResultVar) (vs : List AV), mapO (aresult P pos fr G.H) l = some vs →
    ∃ us : List Value, (l.mapM (resOf a.tmps)).run P G.w = .ok us G.w ∧ vs.length = us.length ∧ ∀ (i : Nat) v u, vs[i]? = some v → us[i]? = some u → VRel G v u
  | [], vs, h => by
    simp only [mapO, Option.some.injEq] at h; subst h
    exact ⟨[], by simp, rfl, by simp⟩
  | r :: l, vs, h => by
    simp only [mapO] at h
    obtain ⟨v, hv, h⟩ := Option.bind_eq_some_iff.1 h
    obtain ⟨vs', hvs, rfl⟩ := Option.map_eq_some_iff.1 h
    obtain ⟨u, h1, h2⟩ := res1 hS hfr hv
    obtain ⟨us, k1, k2, k3⟩ := resN hS hfr l vs' hvs
    refine ⟨u :: us, by simp [List.mapM_cons, Sem.run_bind, h1, k1], by simp [k2], fun i x y hx hy => ?_⟩
    cases i with
    | zero => simp at hx hy; subst hx; subst hy; exact h2
    | succ i => exact k3 i x y (by simpa using hx) (by simpa using hy)
theorem res_ok {G : Gh} {pos : List Nat} {fr : List AV} {a : Act} {fn : Func} (hS : StRel G) (hfr : FRel G fr (valOf pos a)) {vs : List AV} (h : mapO (aresult P pos fr G.H) fn.results.toList = some vs) :
    ∃ u, (results fn a.tmps).run P G.w = .ok u G.w ∧ VRel G (oneOf vs) u := by
  obtain ⟨us, h1, h2, h3⟩ := resN hS hfr _ _ h
  have hrun : (results fn a.tmps).run P G.w = .ok (if h : us.toArray.size = 1 then us.toArray[0] else .tuple us.toArray) G.w := by
    have hr : results fn a.tmps = (do let vs ← fn.results.mapM (resOf a.tmps); pure (if h : vs.size = 1 then vs[0] else .tuple vs)) := by
      unfold results
      have : (fun r : ResultVar => (match r with
        | .tmp t => pure (a.tmps.getD t undef)
        | .cell c t => do loadVar t (← asAddr (a.tmps.getD c undef)) : Sem Value)) = resOf a.tmps := by
        funext r; cases r <;> rfl
      rw [← this]
      rfl
    rw [hr, Array.mapM_eq_mapM_toList, ← bind_pure_comp]
    simp [Sem.run_bind, h1, -bind_pure_comp]
  refine ⟨_, hrun, ?_⟩
  rcases us with _ | ⟨u, _ | ⟨u2, us⟩⟩
  · have : vs = [] := by simpa using h2
    subst this
    exact .tup [] #[] rfl (by simp)
  · rcases vs with _ | ⟨v, _ | ⟨v2, vs⟩⟩
    · simp at h2
    · exact h3 0 v u rfl rfl
    · simp at h2
  · rcases vs with _ | ⟨v, _ | ⟨v2, vs⟩⟩
    · simp at h2
    · simp at h2
    · have : ¬ ((u :: u2 :: us).toArray.size = 1) := by simp
      rw [dif_neg this]
      exact .tup _ _ (by simpa using h2) fun i c v hc hv => h3 i c v hc (by simpa using hv)

/-! ### leaving -/
theorem Marks.putD {s0 : Nat} {X : Gh} {D : Nat} {o' : Obj} : ∀ {ds : List Deferred}, (∀ d ∈ ds, d.target ≠ .collected D) → Marks s0 X ds → Marks s0 { X with w := X.w.putObj D o' } ds
  | [], _, _ => trivial
  | d :: ds, hd, ⟨⟨D', h1, h2, h3, h4, h5⟩, hr⟩ => by
    refine ⟨⟨D', h1, h2, h3, (World.putObj_heap_other ?_).trans h4, h5⟩, Marks.putD (fun d' h => hd d' (by simp [h])) hr⟩
    rintro rfl
    exact hd d (by simp) h1
theorem leave_ok {fn : Func} {N : Nat → Prop} {y : Bool} {G0 : Gh} {R : Ending → World → Prop} {pos : List Nat} {fr : List AV} {a : Act} {H : Heap} {OI : Gh → Prop} (hOI : y = false → ∀ G2, AStep N false G0 G2 → OI G2) :
    ∀ (ds : List Deferred) (G : Gh), (y = true → ds = []) → AStep N y G0 G → G.H = H → OI G → FRel G fr (valOf pos a) → Marks G0.w.heap.size G ds →
      (∀ G2, AStep N y G0 G2 → G2.H = H → OI G2 → FRel G2 fr (valOf pos a) → ∃ v, (results fn a.tmps).run P G2.w = .ok v G2.w ∧ R (.returned v) G2.w) → LeavesInM Fence.wide 0 P fn a.tmps R ds .returning G.w
  | [], G, _, hst, hH, hoi, hfr, _, hR => hR G hst hH hoi hfr
  | d :: ds, G, hy, hst, hH, hoi, hfr, ⟨⟨D, h1, h2, h3, h4, h5⟩, hr⟩, hR => by
    have hyf : y = false := by
      cases y with
      | false => rfl
      | true => have := hy rfl; cases this
    subst hyf
    have p := putF0 (o' := .deferred none) hst h3 h4 notBlk_def h2
    have pe := (putF (N := fun _ => True) (o' := .deferred none) hst.st h3 h4 notBlk_def).ext
    refine ⟨by simp, .inl ⟨D, _, h1, run_takeDeferred h4, ?_⟩⟩
    exact leave_ok hOI ds { G with w := G.w.putObj D (.deferred none) } (fun q => by cases q) p hH (hOI rfl _ p) (hfr.ext pe) (Marks.putD h5 hr) hR

/-- what is asked of the program -/
def OkProg (P : Program) : Prop := P.follows .mixedOrders = true ∧ ∀ (f : FuncId) (fn : Func), P.funcs[f]? = some fn → okFunc fn = true

/-! ### a body -/
theorem abody_ok {cx : Cx} {f : FuncId} {fn : Func} {args : List AV} {L L' : List ABlk} {outer outer' : List OSt} {v : AV} (hP : cx.P = P) (hok : OkProg P) (hC : CallSpec P cx.call) (hCY : CallYSpec P cx.callY) (hgc : cx.gc = true) (hnL : cx.nL = L.length)
    (hf : P.funcs[f]? = some fn) (h : abody cx fn args L outer = some (v, L', outer')) : HasCode P f ∧
    ∀ (G0 : Gh) (OI : Gh → Prop) (cargs : Array Value), OStab OI → StRel G0 → OI G0 → YRel P cx.yield G0.yl OI → G0.H = { heapOf L with outer := outer } → ArgsRel G0 args cargs →
      CallsIn Fence.wide 0 P f cargs G0.w fun e w' => ∃ cv G1, e = .returned cv ∧ G1.w = w' ∧ AStep (fun b => b < L.length) cx.yield.isSome G0 G1 ∧ G1.H = { heapOf L' with outer := outer' } ∧ VRel G1 v cv ∧ OI G1 := by
  have hfn := hok.2 f fn hf
  simp only [okFunc, Bool.and_eq_true] at hfn
  unfold abody at h
  cases hb : fn.body with
  | none => rw [hb] at h; cases h
  | some c =>
    rw [hb] at h hfn
    simp only [fzP_eq] at h hfn
    split at h
    · cases h
    · rename_i hlen
      have hlen : args.length ≤ fn.ntmps := by simpa using hlen
      split at h
      · cases h
      · cases h
      · rename_i ex fr H hne hrun
        obtain ⟨vs, hvs, h⟩ := Option.bind_eq_some_iff.1 h
        obtain ⟨⟨v', L1⟩, hret, h⟩ := Option.map_eq_some_iff.1 h
        cases h
        refine ⟨⟨fn, hf, by simpa [bne, Bool.not_eq_true'] using hfn.1, by rw [hb]; rfl⟩, fun G0 OI cargs hO hS hOI hY hH ha => ?_⟩
        refine callsIn_of_wp_marks hf hb trivial ?_
        have hsz : (cargs ++ Array.replicate (fn.ntmps - cargs.size) undef).size = fn.ntmps := by
          have := ha.1
          simp; omega
        have hfr0 : FRel G0 (cx.ann.pos.map fun t => args.getD t .undef) (valOf cx.ann.pos { tmps := cargs ++ Array.replicate (fn.ntmps - cargs.size) undef, defers := [] }) := by
          intro i x c hx hc
          rw [List.getElem?_map, Option.map_eq_some_iff] at hx
          obtain ⟨t, ht, rfl⟩ := hx
          simp only [valOf, ht, Option.map_some, Option.some.injEq] at hc
          rw [List.getD_eq_getElem?_getD]
          cases hat : args[t]? with
          | none => exact .undef _
          | some u =>
            have htl := (List.getElem?_eq_some_iff.1 hat).1
            have htc : t < cargs.size := by have := ha.1; omega
            subst hc
            refine ha.2 t u _ hat ?_
            simp only [Act.eval, Array.getD_eq_getD_getElem?]
            rw [Array.getElem?_append_left htc, Array.getElem?_eq_getElem htc]
            rfl
        have hcok : Cok cx fn.ntmps OI G0.w.heap.size G0 (cx.ann.pos.map fun t => args.getD t .undef) { tmps := cargs ++ Array.replicate (fn.ntmps - cargs.size) undef, defers := [] } :=
          ⟨hS, hOI, hfr0, hsz, trivial, fun _ => rfl, Nat.le_refl _⟩
        refine arun_ok (nt := fn.ntmps) hok.1 hO c cx none G0.w.heap.size hP hC hCY (fun _ => rfl) hfn.2 _ _ _ _ _ hrun G0 _ hH hY hcok _ fun a' G2 k1 k2 k3 => ?_
        have hend : LeavesInM Fence.wide 0 P fn a'.tmps (fun e w' => ∃ cv G1, e = .returned cv ∧ G1.w = w' ∧ AStep (fun b => b < L.length) cx.yield.isSome G0 G1 ∧ G1.H = { heapOf L1 with outer := H.outer } ∧ VRel G1 v' cv ∧ OI G1) a'.defers .returning G2.w := by
          have k1 : AStep (fun b => b < L.length) cx.yield.isSome G0 G2 := k1.mono fun b hb => .inr (by rw [hnL]; exact hb)
          refine leave_ok (OI := OI) (H := H) (pos := cx.ann.pos) (fr := fr) (fun _ G2 q => hO _ _ _ hOI q) a'.defers G2 k3.df k1 k2 k3.oi k3.fr k3.mks fun G3 j1 j2 j3 j4 => ?_
          subst hP
          subst j2
          obtain ⟨u, hu, hvu⟩ := res_ok (fn := fn) j1.st j4 hvs
          obtain ⟨G4, l1, l2, l3, l4⟩ := aret_sound j1.st hvu hret
          exact ⟨u, hu, u, G4, rfl, l1, j1.trans (l2.any (by simp)), l3, l4, hO _ _ _ j3 l2⟩
        cases ex with
        | exit i => exact (hne i rfl).elim
        | normal => exact hend
        | ret => exact hend

/-! ### calls -/
theorem orElse_some {S : Type} {x : Option S} {f : Unit → Option S} {v : S} (h : x.orElse f = some v) : x = some v ∨ f () = some v := by
  cases x with
  | none => exact .inr h
  | some u => exact .inl h
theorem acallG_ok (hok : OkProg P) {A : FuncId → Ann} {hook : CallFn} (hh : CallSpec P hook) : ∀ (k : Nat),
    (∀ (y : Option YFn) f args L outer v L' outer', acallG P A hook k y f args L outer = some (v, L', outer') → HasCode P f ∧
      ∀ (G0 : Gh) (OI : Gh → Prop) (cargs : Array Value), OStab OI → StRel G0 → OI G0 → YRel P y G0.yl OI → G0.H = { heapOf L with outer := outer } → ArgsRel G0 args cargs →
        CallsIn Fence.wide 0 P f cargs G0.w fun e w' => ∃ cv G1, e = .returned cv ∧ G1.w = w' ∧ AStep (fun b => b < L.length) y.isSome G0 G1 ∧ G1.H = { heapOf L' with outer := outer' } ∧ VRel G1 v cv ∧ OI G1)
  | 0 => by intro y f args L outer v L' outer' h; simp [acallG] at h
  | k + 1 => by
    intro y f args L outer v L' outer' h
    have ih := acallG_ok hok (A := A) hh k
    simp only [acallG] at h
    obtain ⟨fn, hf, h⟩ := Option.bind_eq_some_iff.1 h
    refine abody_ok (cx := ⟨P, _, _, y, true, L.length, A f, k⟩) rfl hok ?_ ?_ rfl rfl hf h
    · intro f args L v L' h
      rcases orElse_some h with h | h
      · exact hh f args L v L' h
      · obtain ⟨⟨v1, L1, o1⟩, h1, h⟩ := Option.bind_eq_some_iff.1 h
        split at h
        · rename_i hemp
          cases h
          obtain ⟨c1, c2⟩ := ih none f args L [] _ _ o1 h1
          refine ⟨c1, fun G0 cargs hS hH ha => (c2 G0 (fun _ => True) cargs (fun _ _ _ _ _ => trivial) hS trivial (fun Z hZ => by cases hZ) hH ha).mono ?_⟩
          rintro e w' ⟨cv, G1, e1, e2, e3, e4, e5, _⟩
          have : o1 = [] := by simpa using hemp
          subst this
          exact ⟨cv, G1, e1, e2, e3, e4, e5⟩
        · cases h
    · intro Y f args outer v outer' h
      obtain ⟨⟨v1, L1, o1⟩, h1, h⟩ := Option.bind_eq_some_iff.1 h
      split at h
      · cases h
        obtain ⟨c1, c2⟩ := ih (some Y) f args [] outer _ L1 _ h1
        refine ⟨c1, fun G0 l OI cargs hS hH hyl hO hoy hOI ha => (c2 G0 OI cargs hO hS hOI (fun Z hZ => by cases hZ; exact ⟨l, hyl, hoy⟩) hH ha).mono ?_⟩
        rintro e w' ⟨cv, G1, h1, h2, h3, h4, h5, h6⟩
        exact ⟨cv, G1, h1, h2, by rw [h4], h6⟩
      · cases h
theorem acall_ok (hok : OkProg P) {A : FuncId → Ann} {hook : CallFn} (hh : CallSpec P hook) (k : Nat) : CallSpec P (acall P A hook k) := by
  intro f args L v L' h
  rcases orElse_some h with h | h
  · exact hh f args L v L' h
  · obtain ⟨⟨v1, L1, o1⟩, h1, h⟩ := Option.bind_eq_some_iff.1 h
    split at h
    · rename_i hemp
      cases h
      obtain ⟨c1, c2⟩ := acallG_ok hok hh k none f args L [] _ _ o1 h1
      refine ⟨c1, fun G0 cargs hS hH ha => (c2 G0 (fun _ => True) cargs (fun _ _ _ _ _ => trivial) hS trivial (fun Z hZ => by cases hZ) hH ha).mono ?_⟩
      rintro e w' ⟨cv, G1, e1, e2, e3, e4, e5, _⟩
      have : o1 = [] := by simpa using hemp
      subst this
      exact ⟨cv, G1, e1, e2, e3, e4, e5⟩
    · cases h
/-- no contracts by other roads -/
def noHook : CallFn := fun _ _ _ => none
theorem noHook_ok : CallSpec P noHook := by intro f args L v L' h; cases h
end calls
end Go.Am
