/-
  LOOPS on the machine, with enough fuel; rows and frames without live memory. Own work.
  MAIL: contracts of small functions on the machine: within, lean, keeps, in. Own work.
  MAIL: contracts of loops over rows: IndexFunc, ContainsFunc. Own work.
  STACKS, in plain Lean: right stacks of copies in layers, how few layers there can be, the least list among the shortest. Own work.
  MAIL: contracts: whether layers are allowed; Straight; least. Own work.
  MAIL: contracts: least. Own work.
  MAIL: contracts: can: the k-loop and the x-loop. Own work.
-/
import Derived.Test.YtbkifahfbcalaaaZd
import Derived.Test.YtbkifahfbcalaaaZe
set_option linter.unusedSimpArgs false
set_option linter.unusedVariables false
namespace Go.Am
mutual
theorem refs_free : ∀ v : AV, v.refFree = true → v.refs = []
  | .undef, _ | .bool _, _ | .int _ _, _ | .str _, _ | .nilp, _ | .nils, _ | .nilm, _ | .nilf, _ | .vs _, _ | .es0, _ | .en, _ | .ip _ _, _ | .fm _ _, _ => by simp [AV.refs]
  | .agg cs, h => by simp only [AV.refs]; exact refsL_free cs (by simpa [AV.refFree] using h)
  | .tup cs, h => by simp only [AV.refs]; exact refsL_free cs (by simpa [AV.refFree] using h)
  | .fn g a b, h => by
    have h : AV.refFreeL a = true ∧ AV.refFreeL b = true := by simpa [AV.refFree] using h
    simp only [AV.refs]; rw [refsL_free a h.1, refsL_free b h.2]; rfl
  | .hp _ _, h | .hs _ _, h | .hq _ _ _ _, h | .he _ _ _ _, h | .hm _, h | .yld, h => by simp [AV.refFree] at h
theorem refsL_free : ∀ l : List AV, AV.refFreeL l = true → AV.refsL l = []
  | [], _ => rfl
  | x :: r, h => by
    have h : AV.refFree x = true ∧ AV.refFreeL r = true := by simpa [AV.refFreeL] using h
    simp only [AV.refsL]; rw [refs_free x h.1, refsL_free r h.2]; rfl
end
def mask (fr : List AV) (keep : List Bool) : List AV := (fr.zip keep).map fun q => if q.2 then q.1 else .undef
@[simp] theorem mask_nil {k : List Bool} : mask [] k = [] := by simp [mask]
@[simp] theorem mask_cons {x : AV} {fr : List AV} {b : Bool} {k : List Bool} : mask (x :: fr) (b :: k) = (if b then x else .undef) :: mask fr k := by simp [mask]
theorem canon_free {gc : Bool} {keep : List Bool} {fr : List AV} {o : List OSt} (hf : AV.refFreeL (mask fr keep) = true) : canon gc 0 keep fr ⟨0, [], o⟩ = (mask fr keep, ⟨0, [], o⟩) := by
  unfold canon
  simp only
  have hm : ((fr.zip keep).map fun q => if q.2 then q.1 else .undef) = mask fr keep := rfl
  rw [hm]
  split
  · rfl
  · have hr : reached ⟨0, [], o⟩ ([] ++ mask fr keep) = [] := by
      simp only [reached, touched, List.nil_append]
      rw [refsL_free _ hf]
      rfl
    have h0 : (List.range 0).map (fun i => AV.hp i 0) = [] := rfl
    rw [h0, hr]
    simp only [List.range_zero, List.filter_nil, List.append_nil]
    rw [AV.renL_free _ _ hf]
    rfl
/-- a loop's head over live memory -/
theorem canon_of {keep : List Bool} {fr : List AV} {H : Heap} {order : List Nat} {bl : List ABlk} {fr' : List AV} (hr : reached H (mask fr keep) = order) (hp : pack H order (freshBut 0) = bl) (hl : bl.length = order.length) (hok : bl.all ABlk.okRow = true) (ho : H.outer = [])
    (hf : AV.renL (toIdx H order (freshBut 0)) (mask fr keep) = fr') : canon true 0 keep fr H = (fr', ⟨bl.length, (List.range bl.length).zip bl, []⟩) := by
  unfold canon
  simp only
  have hm : ((fr.zip keep).map fun q => if q.2 then q.1 else .undef) = mask fr keep := rfl
  rw [hm]
  have h0 : (List.range 0).map (fun i => AV.hp i 0) = [] := rfl
  have hfil : (reached H ([] ++ mask fr keep)).filter (0 ≤ ·) = order := by
    rw [List.nil_append, hr]
    exact List.filter_eq_self.2 fun _ _ => by simp
  rw [if_neg (by simp), h0, hfil]
  have hpo : packOk H (List.range 0 ++ order) (freshBut 0) = true := by
    have : List.range 0 ++ order = order := rfl
    rw [this]
    simp only [packOk, hp, hl, hok, beq_self_eq_true, Bool.and_self]
  have e : List.range 0 ++ order = order := rfl
  rw [if_pos hpo, e, hf, hp, ho]
  rfl
theorem reach_nil {H : Heap} {k : Nat} {acc : List Nat} : reach H k [] acc = acc.reverse := by cases k <;> rfl
theorem reach_skip {H : Heap} {k b : Nat} {todo acc : List Nat} (h : acc.contains b = true) : reach H (k + 1) (b :: todo) acc = reach H k todo acc := by
  simp only [reach, h, if_true]
theorem reach_at {H : Heap} {k b : Nat} {todo acc : List Nat} {x : ABlk} (h : acc.contains b = false) (hb : H.get b = some x) : reach H (k + 1) (b :: todo) acc = reach H k (x.refs ++ todo) (b :: acc) := by
  simp only [reach, h, Bool.false_eq_true, if_false, hb]
theorem fuel_eq : reachFuel = 99990 + 10 := rfl
/-- one block, two blocks, a row that names another, .. -/
theorem reached_1 {H : Heap} {fr : List AV} {x : ABlk} (hf : AV.refsL fr = [0]) (h0 : H.get 0 = some x) (r0 : x.refs = []) : reached H fr = [0] := by
  unfold reached touched
  rw [hf, fuel_eq, reach_at rfl h0, r0, List.nil_append, reach_nil]
  simp [h0]
theorem reached_2 {H : Heap} {fr : List AV} {x y : ABlk} (hf : AV.refsL fr = [0, 1]) (h0 : H.get 0 = some x) (r0 : x.refs = []) (h1 : H.get 1 = some y) (r1 : y.refs = []) : reached H fr = [0, 1] := by
  unfold reached touched
  rw [hf, fuel_eq, reach_at rfl h0, r0, List.nil_append, reach_at rfl h1, r1, List.nil_append, reach_nil]
  simp [h0, h1]
theorem reached_02 {H : Heap} {fr : List AV} {x y : ABlk} (hf : AV.refsL fr = [0, 2]) (h0 : H.get 0 = some x) (r0 : x.refs = []) (h1 : H.get 2 = some y) (r1 : y.refs = []) : reached H fr = [0, 2] := by
  unfold reached touched
  rw [hf, fuel_eq, reach_at rfl h0, r0, List.nil_append, reach_at rfl h1, r1, List.nil_append, reach_nil]
  simp [h0, h1]
theorem reached_1_1 {H : Heap} {fr : List AV} {x y : ABlk} (hf : AV.refsL fr = [0]) (h0 : H.get 0 = some x) (r0 : x.refs = [1]) (h1 : H.get 1 = some y) (r1 : y.refs = []) : reached H fr = [0, 1] := by
  unfold reached touched
  rw [hf, fuel_eq, reach_at rfl h0, r0, List.cons_append, List.nil_append, reach_at rfl h1, r1, List.nil_append, reach_nil]
  simp [h0, h1]
theorem reached_1_2 {H : Heap} {fr : List AV} {x y z : ABlk} (hf : AV.refsL fr = [0, 2]) (h0 : H.get 0 = some x) (r0 : x.refs = [1]) (h1 : H.get 1 = some y) (r1 : y.refs = []) (h2 : H.get 2 = some z) (r2 : z.refs = []) : reached H fr = [0, 1, 2] := by
  unfold reached touched
  rw [hf, fuel_eq, reach_at rfl h0, r0, List.cons_append, List.nil_append, reach_at rfl h1, r1, List.nil_append, reach_at rfl h2, r2, List.nil_append, reach_nil]
  simp [h0, h1, h2]
@[simp] theorem free_undef : AV.refFree .undef = true := nr rfl
theorem unif {S : Type} {p : S → Nat → Prop} : ∀ {l : List S}, (∀ y ∈ l, ∃ K, ∀ k, K ≤ k → p y k) → ∃ K, ∀ y ∈ l, ∀ k, K ≤ k → p y k
  | [], _ => ⟨0, by simp⟩
  | x :: r, h => by
    obtain ⟨K1, h1⟩ := h x (by simp)
    obtain ⟨K2, h2⟩ := unif (l := r) fun y hy => h y (by simp [hy])
    refine ⟨max K1 K2, fun y hy k hk => ?_⟩
    rcases List.mem_cons.1 hy with rfl | hy
    · exact h1 k (by omega)
    · exact h2 y hy k (by omega)
/-- a loop that ends so, with enough fuel -/
def LoopTo (body : Nat → List AV → Heap → ARes) (keep : List Bool) (fr : List AV) (H : Heap) (r : AExit × List AV × Heap) : Prop := ∃ K, ∀ k, K ≤ k → ∀ j, K ≤ j → loopU (body k) true 0 keep j fr H = some r
theorem LoopTo.exit {body : Nat → List AV → Heap → ARes} {keep : List Bool} {fr fr0 : List AV} {H H0 : Heap} {e : AExit} {fr' : List AV} {H' : Heap} (K : Nat) (hc : canon true 0 keep fr H = (fr0, H0)) (h : ∀ k, K ≤ k → body k fr0 H0 = some (e, fr', H')) (he : e ≠ .normal) : LoopTo body keep fr H (e, fr', H') := by
  refine ⟨K + 1, fun k hk j hj => ?_⟩
  obtain ⟨i, rfl⟩ : ∃ i, j = i + 1 := ⟨j - 1, by omega⟩
  simp only [loopU, hc, h k (by omega)]
  cases e with
  | normal => exact absurd rfl he
  | exit i => rfl
  | ret => rfl
theorem LoopTo.step {body : Nat → List AV → Heap → ARes} {keep : List Bool} {fr fr0 fr1 : List AV} {H H0 H1 : Heap} {r : AExit × List AV × Heap} (K : Nat) (hc : canon true 0 keep fr H = (fr0, H0)) (h : ∀ k, K ≤ k → body k fr0 H0 = some (.normal, fr1, H1)) (hl : LoopTo body keep fr1 H1 r) : LoopTo body keep fr H r := by
  obtain ⟨K2, h2⟩ := hl
  refine ⟨max K K2 + 1, fun k hk j hj => ?_⟩
  obtain ⟨i, rfl⟩ : ∃ i, j = i + 1 := ⟨j - 1, by omega⟩
  simp only [loopU, hc, h k (by omega)]
  exact h2 k (by omega) i (by omega)
/-- .. and so leaves things -/
def LoopQ (body : Nat → List AV → Heap → ARes) (keep : List Bool) (fr : List AV) (H : Heap) (Q : AExit → List AV → Heap → Prop) : Prop := ∃ e fr' H', LoopTo body keep fr H (e, fr', H') ∧ Q e fr' H'
theorem LoopQ.exit {body : Nat → List AV → Heap → ARes} {keep : List Bool} {fr fr0 : List AV} {H H0 : Heap} {Q : AExit → List AV → Heap → Prop} (K : Nat) {e : AExit} {fr' : List AV} {H' : Heap} (hc : canon true 0 keep fr H = (fr0, H0)) (h : ∀ k, K ≤ k → body k fr0 H0 = some (e, fr', H')) (he : e ≠ .normal) (hQ : Q e fr' H') : LoopQ body keep fr H Q :=
  ⟨e, fr', H', .exit K hc h he, hQ⟩
theorem LoopQ.step {body : Nat → List AV → Heap → ARes} {keep : List Bool} {fr fr0 : List AV} {H H0 : Heap} {Q : AExit → List AV → Heap → Prop} (K : Nat) {fr1 : List AV} {H1 : Heap} (hc : canon true 0 keep fr H = (fr0, H0)) (h : ∀ k, K ≤ k → body k fr0 H0 = some (.normal, fr1, H1)) (hl : LoopQ body keep fr1 H1 Q) : LoopQ body keep fr H Q := by
  obtain ⟨e, fr', H', h1, h2⟩ := hl
  exact ⟨e, fr', H', .step K hc h h1, h2⟩
end Go.Am
namespace Go.Proofs.Ytbkifahfbcalaaa
open Go.Am
variable {h : CallFn}

theorem within_con (hh : Hk h) (n a b : Int) : Con h 54 [.int .i64 n, .int .i64 a, .int .i64 b] (.bool (decide (a ≤ n) && decide (n ≤ b))) := by
  refine .of 0 fun k _ => ?_
  rw [f54_eq (hh _ _ _ (by decide))]
  by_cases h1 : a ≤ n <;> by_cases h2 : n ≤ b <;> simp [f54_fin_normal, f54_fin_ret, c54_0_run, c54_1_run, c54_2_run, c54_3_k1, c54_3_run, c54_4_run, seqX, h1, h2, aret_free]
theorem in_con (hh : Hk h) (n a b : Int) : Con h 94 [.int .i64 n, .int .i64 a, .int .i64 b] (.bool (decide (a ≤ n) && decide (n ≤ b))) := by
  refine .of 0 fun k _ => ?_
  rw [f94_eq (hh _ _ _ (by decide))]
  by_cases h1 : a ≤ n <;> by_cases h2 : n ≤ b <;> simp [f94_fin_normal, f94_fin_ret, c94_0_run, c94_1_run, c94_2_run, c94_3_k1, c94_3_run, c94_4_run, seqX, h1, h2, aret_free]
/-- a stack's lean after a layer more -/
def leanF (x k j : Int) : Int := if j.tmod 2 = 1 then x - k else x + k
theorem lean_con (hh : Hk h) (x k j : Int) (h1 : -4611686018427387904 ≤ x) (h2 : x < 4611686018427387904) (h3 : -4611686018427387904 ≤ k) (h4 : k < 4611686018427387904) :
    Con h 71 [.int .i64 x, .int .i64 k, .int .i64 j] (.int .i64 (leanF x k j)) := by
  refine .of 0 fun f _ => ?_
  rw [f71_eq (hh _ _ _ (by decide))]
  have e1 : IntKind.i64.wrap (x - k) = x - k := wrap_i64 (by omega) (by omega)
  have e2 : IntKind.i64.wrap (x + k) = x + k := wrap_i64 (by omega) (by omega)
  by_cases hj : j.tmod 2 = 1 <;> simp [leanF, f71_fin_normal, f71_fin_ret, c71_0_run, c71_1_run, c71_2_run, c71_3_run, c71_4_run, c71_5_run, c71_6_run, c71_7_run, c71_8_run, c71_9_run, c71_10_run, c71_11_run, c71_12_run, seqX, hj, e1, e2, aret_free]
theorem keeps_con (hh : Hk h) (x l : Int) (h1 : -9223372036854775808 < l) (h2 : l < 9223372036854775808) : Con h 72 [.int .i64 x, .int .i64 l] (.bool (decide (-l ≤ x) && decide (x ≤ l))) := by
  obtain ⟨K, hw⟩ := within_con hh x (-l) l
  refine .of K fun f hf => ?_
  rw [f72_eq (hh _ _ _ (by decide))]
  have e1 : IntKind.i64.wrap (-l) = -l := wrap_i64 (by omega) (by omega)
  simp [f72_fin_normal, f72_fin_ret, c72_0_run, c72_1_run, c72_2_run, c72_3_run, c72_4_run, seqX, e1, aret_free, pCall_free, hw f hf]
end Go.Proofs.Ytbkifahfbcalaaa
namespace Go.Proofs.Ytbkifahfbcalaaa
open Go.Am
variable {h : CallFn}

/-- the code of a function's piece, with calls of some fuel -/
noncomputable abbrev bodyOf (h : CallFn) (a : Ann) (c : Code) (k : Nat) : List AV → Heap → ARes := arun (cxM (acall Try.prog annOf h k) (callYM Try.prog annOf h k) none true 0 a k) c
def idxF (p : AV → Bool) : List AV → Nat → Int
  | [], _ => -1
  | x :: r, i => if p x then i else idxF p r (i + 1)
/-- elements of a row that is only read: n cells each, of the type te -/
def Elems (te n : Nat) (es : List AV) : Prop := ∀ y ∈ es, y.cells.length = n ∧ (∀ H, pLoad Try.prog te (.ip y.cells 0) H = some y) ∧ y.refFree = true ∧ isRow y = false
theorem idx56_con (hh : Hk h) {es : List AV} {x : AV} (hx : IsRow x es) (h1 : Elems 3 1 es) {g : FuncId} {fs cs : List AV} (hf : AV.refFreeL fs = true) (hc : AV.refFreeL cs = true) (hr : fs.any isRow = false ∧ cs.any isRow = false)
    {p : AV → Bool} (hp : ∀ y ∈ es, Con h g (fs ++ [y] ++ cs) (.bool (p y))) (hl : es.length < 4611686018427387904) : Con h 56 [x, .fn g fs cs] (.int .i64 (idxF p es 0)) := by
  obtain ⟨K, hK⟩ := unif hp
  have hxf := hx.free
  have hloop : ∀ (m i : Nat), es.length - i = m → i ≤ es.length → ∀ x4 x5 x9 x16 : AV, LoopQ (bodyOf h an56 c56_7) [true, true, false, false, true, true, false, false] [x, .fn g fs cs, x4, x5, .int .i64 es.length, .int .i64 i, x9, x16] ⟨0, [], []⟩ fun e fr' H' => H' = ⟨0, [], []⟩ ∧
      ((e = .ret ∧ ∃ y0 y1 y3 y4 y5 y6 y7, fr' = [y0, y1, .int .i64 (idxF p (es.drop i) i), y3, y4, y5, y6, y7]) ∨ (e = .exit 0 ∧ idxF p (es.drop i) i = -1 ∧ ∃ y0 y1 y2 y3 y4 y5 y6 y7, fr' = [y0, y1, y2, y3, y4, y5, y6, y7])) := by
    intro m
    induction m with
    | zero =>
      intro i hm hi x4 x5 x9 x16
      have : i = es.length := by omega
      subst this
      apply LoopQ.exit K (canon_free (by simp [hf, hc, hxf]))
      case h => intro k hk; simp [c56_7_run, c56_8_run, c56_9_run, c56_10_run, c56_11_run, c56_12_run, c56_13_run, c56_14_run, c56_15_run, c56_16_run, c56_17_run, c56_18_run, c56_19_run, c56_20_run, c56_21_run, c56_22_run, c56_23_run, c56_24_run, c56_25_run, c56_26_run, c56_27_run, seqX, blockX, -Option.some.injEq]; rfl
      · simp
      · exact ⟨rfl, .inr ⟨rfl, by simp [idxF], _, _, _, _, _, _, _, _, rfl⟩⟩
    | succ m ih =>
      intro i hm hi x4 x5 x9 x16
      have hil : i < es.length := by omega
      have hxv := hx.vs (by intro e; rw [e] at hil; simp at hil)
      subst hxv
      have hy := List.getElem?_eq_getElem hil
      have hmem := List.getElem_mem hil
      obtain ⟨y1, y2, y3, y4⟩ := h1 _ hmem
      have hdrop : es.drop i = es[i] :: es.drop (i + 1) := List.drop_eq_getElem_cons hil
      have hw : IntKind.i64.wrap ((i : Int) + 1) = ((i + 1 : Nat) : Int) := by rw [wrap_i64 (by omega) (by omega)]; simp
      have hpc : ∀ k, K ≤ k → pCall (acall Try.prog annOf h k) 0 g (fs ++ es[i] :: cs) ⟨0, [], []⟩ 0 = some (.bool (p es[i]), ⟨0, [], []⟩, [], []) := fun k hk =>
        pCall_con (by simpa using hK _ hmem k hk) rfl (by simp [hr.1, hr.2, y4]) (by simp [hf, hc, y3])
      by_cases hpy : p es[i] = true
      · apply LoopQ.exit K (canon_free (by simp [hf, hc]))
        case h => intro k hk; simp [c56_7_run, c56_8_run, c56_9_run, c56_10_run, c56_11_run, c56_12_run, c56_13_run, c56_14_run, c56_15_run, c56_16_run, c56_17_run, c56_18_run, c56_19_run, c56_20_run, c56_21_run, c56_22_run, c56_23_run, c56_24_run, c56_25_run, c56_26_run, c56_27_run, seqX, blockX, hil, idx22_vs hy y1, y2, callVal, fnOf, hpc k hk, hpy, -Option.some.injEq]; rfl
        · simp
        · have he : idxF p (es.drop i) i = (i : Int) := by rw [hdrop, idxF, if_pos hpy]
          rw [he]
          exact ⟨rfl, .inl ⟨rfl, _, _, _, _, _, _, _, rfl⟩⟩
      · have hpy : p es[i] = false := by simpa using hpy
        apply LoopQ.step K (canon_free (by simp [hf, hc]))
        case h => intro k hk; simp [c56_7_run, c56_8_run, c56_9_run, c56_10_run, c56_11_run, c56_12_run, c56_13_run, c56_14_run, c56_15_run, c56_16_run, c56_17_run, c56_18_run, c56_19_run, c56_20_run, c56_21_run, c56_22_run, c56_23_run, c56_24_run, c56_25_run, c56_26_run, c56_27_run, seqX, blockX, hil, idx22_vs hy y1, y2, callVal, fnOf, hpc k hk, hpy, hw, -Option.some.injEq]; rfl
        have he : idxF p (es.drop i) i = idxF p (es.drop (i + 1)) (i + 1) := by rw [hdrop, idxF]; simp [hpy]
        rw [he]
        exact ih (i + 1) (by omega) (by omega) _ _ _ _
  obtain ⟨e, fr', H', ⟨K2, hl2⟩, rfl, hQ⟩ := hloop es.length 0 (by omega) (by omega) (.int .i64 0) .undef .undef .undef
  have hlen := len22_row (H := ⟨0, [], []⟩) hx.of
  refine .of (max K K2) fun k hk => ?_
  rw [f56_eq (hh _ _ _ (by decide))]
  have hlk := hl2 k (by omega) k (by omega)
  simp only [bodyOf, Int.natCast_zero] at hlk
  rcases hQ with ⟨rfl, y0, y1, y3, y4, y5, y6, y7, rfl⟩ | ⟨rfl, hm1, y0, y1, y2, y3, y4, y5, y6, y7, rfl⟩
  · simp [f56_fin_normal, f56_fin_ret, c56_0_run, c56_1_run, c56_2_run, c56_3_run, c56_4_run, c56_5_run, c56_6_run, seqX, blockX, hlen, hlk, aret_free]
  · rw [List.drop_zero] at hm1
    simp [f56_fin_normal, f56_fin_ret, c56_0_run, c56_1_run, c56_2_run, c56_3_run, c56_4_run, c56_5_run, c56_6_run, c56_7_run, c56_8_run, c56_9_run, c56_10_run, c56_11_run, c56_12_run, c56_13_run, c56_14_run, c56_15_run, c56_16_run, c56_17_run, c56_18_run, c56_19_run, c56_20_run, c56_21_run, c56_22_run, c56_23_run, c56_24_run, c56_25_run, c56_26_run, c56_27_run, seqX, blockX, hlen, hlk, aret_free, hm1]
theorem elems_ints {l : List Int} : Elems 3 1 (ints l) := by
  intro y hy
  simp only [ints, List.mem_map] at hy
  obtain ⟨n, _, rfl⟩ := hy
  exact ⟨rfl, fun H => by simp, rfl, rfl⟩
theorem has20_con (hh : Hk h) {es : List AV} {x : AV} (hx : IsRow x es) (h1 : Elems 3 1 es) {g : FuncId} {fs cs : List AV} (hf : AV.refFreeL fs = true) (hc : AV.refFreeL cs = true) (hr : fs.any isRow = false ∧ cs.any isRow = false)
    {p : AV → Bool} (hp : ∀ y ∈ es, Con h g (fs ++ [y] ++ cs) (.bool (p y))) (hl : es.length < 4611686018427387904) : Con h 20 [x, .fn g fs cs] (.bool (es.any p)) := by
  obtain ⟨K, hK⟩ := idx56_con hh hx h1 hf hc hr hp hl
  refine .of K fun k hk => ?_
  rw [f20_eq (hh _ _ _ (by decide))]
  have hi : ∀ (l : List AV) (i : Nat), decide (0 ≤ idxF p l i) = l.any p := by
    intro l
    induction l with
    | nil => intro i; simp [idxF]
    | cons a r ih =>
      intro i
      simp only [idxF, List.any_cons]
      by_cases hpa : p a = true
      · simp [hpa]
      · simp only [Bool.not_eq_true] at hpa
        simp [hpa, ← ih (i + 1)]
  simp [f20_fin_normal, f20_fin_ret, c20_0_run, c20_1_run, c20_2_run, c20_3_run, c20_4_run, seqX, pCall_free, hx.notRow, hx.free, hf, hc, hK k hk, hi, aret_free]
end Go.Proofs.Ytbkifahfbcalaaa
namespace Go.Stk

/-- the lean after a layer more: layers with odd numbers are turned -/
def ln (x k : Int) (j : Nat) : Int := if j % 2 = 1 then x - k else x + k
def sg (j : Nat) : Int := if j % 2 = 1 then -1 else 1
theorem ln_sg (x k : Int) (j : Nat) : ln x k j = x + sg j * k := by
  unfold ln sg; split <;> omega
theorem sg_succ (j : Nat) : sg (j + 1) = - sg j := by
  unfold sg; split <;> split <;> omega
theorem sg_cases (j : Nat) : sg j = 1 ∨ sg j = -1 := by unfold sg; split <;> simp
/-- layers on a stack with lean x, from number j on: no lean is more than L, the last one not more than e -/
def okS (L e : Int) : List Int → Int → Nat → Bool
  | [], x, _ => decide (-e ≤ x) && decide (x ≤ e)
  | k :: r, x, j => (decide (-L ≤ ln x k j) && decide (ln x k j ≤ L)) && okS L e r (ln x k j) (j + 1)
def sum : List Int → Int
  | [] => 0
  | k :: r => k + sum r
theorem sum_append (a b : List Int) : sum (a ++ b) = sum a + sum b := by
  induction a with
  | nil => simp [sum]
  | cons x r ih => simp only [List.cons_append, sum, ih]; omega
/-- what r layers more make of a stack with so many copies and this lean a right one of n copies -/
structure Fit (n L e : Int) (r j : Nat) (u x : Int) (ks : List Int) : Prop where
  len : ks.length = r
  pos : ∀ k ∈ ks, 1 ≤ k
  all : u + sum ks = n
  ok : okS L e ks x j = true
theorem Fit.cons {n L e : Int} {r j : Nat} {u x k : Int} {ks : List Int} (hk : 1 ≤ k) (h1 : -L ≤ ln x k j) (h2 : ln x k j ≤ L) (h : Fit n L e r (j + 1) (u + k) (ln x k j) ks) : Fit n L e (r + 1) j u x (k :: ks) where
  len := by simp [h.len]
  pos := by
    intro q hq
    rcases List.mem_cons.1 hq with rfl | hq
    · exact hk
    · exact h.pos q hq
  all := by have := h.all; simp only [sum]; omega
  ok := by simp [okS, h1, h2, h.ok]
theorem Fit.uncons {n L e : Int} {r j : Nat} {u x : Int} {ks : List Int} (h : Fit n L e (r + 1) j u x ks) : ∃ k s, ks = k :: s ∧ 1 ≤ k ∧ -L ≤ ln x k j ∧ ln x k j ≤ L ∧ Fit n L e r (j + 1) (u + k) (ln x k j) s := by
  cases ks with
  | nil => have := h.len; simp at this
  | cons k s =>
    have ho := h.ok
    simp only [okS, Bool.and_eq_true, decide_eq_true_eq] at ho
    refine ⟨k, s, rfl, h.pos k (by simp), ho.1.1, ho.1.2, ?_⟩
    exact ⟨by have := h.len; simpa using this, fun q hq => h.pos q (by simp [hq]), by have := h.all; simp only [sum] at this; omega, ho.2⟩
theorem sum_nonneg {ks : List Int} (h : ∀ k ∈ ks, 1 ≤ k) : (ks.length : Int) ≤ sum ks := by
  induction ks with
  | nil => simp [sum]
  | cons k r ih =>
    have h1 := h k (by simp)
    have h2 := ih fun q hq => h q (by simp [hq])
    simp only [sum, List.length_cons]
    omega

/-! ### whether it can be done, as a program tells -/
def fits (n L e : Int) : Nat → Nat → Int → Int → Bool
  | 0, _, u, x => decide (u = n) && (decide (-e ≤ x) && decide (x ≤ e))
  | r + 1, j, u, x => (List.range (n - u).toNat).any fun i => (decide (-L ≤ ln x (i + 1) j) && decide (ln x (i + 1) j ≤ L)) && fits n L e r (j + 1) (u + (i + 1)) (ln x (i + 1) j)
theorem fits_iff {n L e : Int} : ∀ (r j : Nat) (u x : Int), fits n L e r j u x = true ↔ ∃ ks, Fit n L e r j u x ks
  | 0, j, u, x => by
    simp only [fits, Bool.and_eq_true, decide_eq_true_eq]
    constructor
    · rintro ⟨rfl, h1, h2⟩
      exact ⟨[], rfl, by simp, by simp [sum], by simp [okS, h1, h2]⟩
    · rintro ⟨ks, h1, h2, h3, h4⟩
      have : ks = [] := List.eq_nil_of_length_eq_zero h1
      subst this
      simp only [sum, okS, Bool.and_eq_true, decide_eq_true_eq] at h3 h4
      exact ⟨by omega, h4⟩
  | r + 1, j, u, x => by
    simp only [fits, List.any_eq_true, List.mem_range, Bool.and_eq_true, decide_eq_true_eq]
    constructor
    · rintro ⟨i, hi, ⟨h1, h2⟩, h3⟩
      obtain ⟨ks, hk⟩ := (fits_iff r (j + 1) _ _).1 h3
      exact ⟨_, hk.cons (by omega) h1 h2⟩
    · rintro ⟨ks, hk⟩
      obtain ⟨k, s, rfl, h1, h2, h3, h4⟩ := hk.uncons
      refine ⟨(k - 1).toNat, ?_, ?_⟩
      · have h5 := sum_nonneg h4.pos
        have h6 := h4.all
        omega
      · have e : (((k - 1).toNat : Nat) : Int) + 1 = k := by omega
        rw [e]
        exact ⟨⟨h2, h3⟩, (fits_iff r (j + 1) _ _).2 ⟨s, h4⟩⟩

/-! ### the least list -/
def lle : List Int → List Int → Bool
  | [], _ => true
  | _ :: _, [] => false
  | a :: r, b :: s => decide (a < b) || (decide (a = b) && lle r s)
/-- taken layer by layer, each as small as can be -/
inductive Greedy (n L e : Int) : Nat → Nat → Int → Int → List Int → Prop
  | nil (j : Nat) (u x : Int) : Greedy n L e 0 j u x []
  | cons (r j : Nat) (u x k : Int) (ks : List Int) (hk : 1 ≤ k) (h1 : -L ≤ ln x k j) (h2 : ln x k j ≤ L) (h3 : fits n L e r (j + 1) (u + k) (ln x k j) = true)
      (hl : ∀ q, 1 ≤ q → q < k → ¬ ((-L ≤ ln x q j ∧ ln x q j ≤ L) ∧ fits n L e r (j + 1) (u + q) (ln x q j) = true)) (h : Greedy n L e r (j + 1) (u + k) (ln x k j) ks) : Greedy n L e (r + 1) j u x (k :: ks)
theorem Greedy.least {n L e : Int} {r j : Nat} {u x : Int} {ks : List Int} (h : Greedy n L e r j u x ks) (hf : fits n L e r j u x = true) : Fit n L e r j u x ks ∧ ∀ t, Fit n L e r j u x t → lle ks t = true := by
  induction h with
  | nil j u x =>
    obtain ⟨ks, hk⟩ := (fits_iff 0 j u x).1 hf
    have : ks = [] := List.eq_nil_of_length_eq_zero hk.len
    subst this
    exact ⟨hk, fun t _ => by simp [lle]⟩
  | cons r j u x k ks hk h1 h2 h3 hl h ih =>
    obtain ⟨i1, i2⟩ := ih h3
    refine ⟨i1.cons hk h1 h2, fun t ht => ?_⟩
    obtain ⟨q, s, rfl, g1, g2, g3, g4⟩ := ht.uncons
    simp only [lle, Bool.or_eq_true, Bool.and_eq_true, decide_eq_true_eq]
    rcases Int.lt_trichotomy k q with hlt | rfl | hgt
    · exact .inl hlt
    · exact .inr ⟨rfl, i2 s g4⟩
    · exact absurd ⟨⟨g2, g3⟩, (fits_iff r (j + 1) _ _).2 ⟨s, g4⟩⟩ (hl q g1 hgt)

/-! ### how few layers -/
theorem mul_succ2 (L : Int) (r : Nat) : 2 * L * ((r + 1 : Nat) : Int) = 2 * L * (r : Int) + 2 * L := by
  rw [Int.natCast_add, Int.mul_add]; simp
/-- no more copies than that lie in so many layers -/
theorem bound {L e : Int} : ∀ (ks : List Int) (x : Int) (j : Nat), ks ≠ [] → okS L e ks x j = true → sum ks ≤ 2 * L * ((ks.length - 1 : Nat) : Int) + e - sg j * x
  | [], x, j, hne, _ => absurd rfl hne
  | [k], x, j, _, h => by
    simp only [okS, Bool.and_eq_true, decide_eq_true_eq, ln_sg] at h
    simp only [sum, List.length_cons, List.length_nil]
    rcases sg_cases j with hs | hs <;> rw [hs] at h ⊢ <;> simp <;> omega
  | k :: q :: r, x, j, _, h => by
    simp only [okS, Bool.and_eq_true, decide_eq_true_eq] at h
    have ih := bound (q :: r) (ln x k j) (j + 1) (by simp) (by simp only [okS, Bool.and_eq_true, decide_eq_true_eq]; exact h.2)
    have hl : (k :: q :: r).length - 1 = ((q :: r).length - 1) + 1 := by simp
    rw [hl, mul_succ2]
    rw [show sum (k :: q :: r) = k + sum (q :: r) from rfl]
    obtain ⟨⟨h1, h2⟩, _⟩ := h
    rw [sg_succ] at ih
    rw [ln_sg] at h1 h2 ih
    generalize hX : 2 * L * (((q :: r).length - 1 : Nat) : Int) = X at ih ⊢
    generalize hS : sum (q :: r) = S at ih ⊢
    rcases sg_cases j with hs | hs <;> rw [hs] at h1 h2 ih ⊢ <;> simp at h1 h2 ih ⊢ <;> omega
/-- the number of copies and the last lean are both odd or both even -/
theorem parity {L e : Int} : ∀ (ks : List Int) (x : Int) (j : Nat), okS L e ks x j = true → (sum ks + x - e) % 2 ≠ 0 → okS L (e - 1) ks x j = true
  | [], x, j, h, hp => by
    simp only [okS, sum, Bool.and_eq_true, decide_eq_true_eq] at h hp ⊢
    omega
  | k :: r, x, j, h, hp => by
    simp only [okS, Bool.and_eq_true, decide_eq_true_eq] at h ⊢
    refine ⟨h.1, parity r _ _ h.2 ?_⟩
    simp only [sum] at hp
    unfold ln
    split <;> omega
/-- the end, less one if it cannot be reached -/
def endF (n e : Int) : Int := if (n - e) % 2 ≠ 0 then e - 1 else e
theorem few {n L e : Int} {r : Nat} {ks : List Int} (h : Fit n L e r 0 0 0 ks) (hn : 1 ≤ n) : 0 ≤ endF n e ∧ 1 ≤ r ∧ n ≤ 2 * L * ((r - 1 : Nat) : Int) + endF n e := by
  have hne : ks ≠ [] := by
    rintro rfl
    have := h.all
    simp only [sum] at this
    omega
  have hs : sum ks = n := by have := h.all; omega
  have hok : okS L (endF n e) ks 0 0 = true := by
    unfold endF
    split
    · rename_i hp
      exact parity ks 0 0 h.ok (by rw [hs]; simpa using hp)
    · exact h.ok
  have hb := bound ks 0 0 hne hok
  have hl := h.len
  have h0 : ∀ (ks : List Int) (x : Int) (j : Nat) (e : Int), okS L e ks x j = true → 0 ≤ e := by
    intro ks
    induction ks with
    | nil => intro x j e h; simp only [okS, Bool.and_eq_true, decide_eq_true_eq] at h; omega
    | cons k r ih => intro x j e h; simp only [okS, Bool.and_eq_true] at h; exact ih _ _ _ h.2
  refine ⟨h0 _ _ _ _ hok, ?_, ?_⟩
  · have : ks.length ≠ 0 := by simpa using hne
    omega
  · rw [hs, hl] at hb
    simpa using hb

/-! ### it can be done -/
def zig (L e : Int) : Nat → Int → List Int
  | 0, _ => []
  | 1, c => [c + e]
  | r + 2, c => (c + L) :: zig L e (r + 1) L
theorem zig_fit {L e E : Int} (hL : 1 ≤ L) (he : 0 ≤ e) (heL : e ≤ L) (heE : e ≤ E) : ∀ (r : Nat) (c : Int) (j : Nat), 1 ≤ c → c ≤ L → (zig L e (r + 1) c).length = r + 1 ∧ (∀ k ∈ zig L e (r + 1) c, 1 ≤ k) ∧ sum (zig L e (r + 1) c) = c + 2 * L * (r : Int) + e ∧ okS L E (zig L e (r + 1) c) (- sg j * c) j = true
  | 0, c, j, h1, h2 => by
    refine ⟨rfl, ?_, ?_, ?_⟩
    · intro k hk; simp only [zig, List.mem_singleton] at hk; omega
    · simp [zig, sum]
    · simp only [zig, okS, ln_sg, Bool.and_eq_true, decide_eq_true_eq]
      rcases sg_cases j with hs | hs <;> rw [hs] <;> simp <;> omega
  | r + 1, c, j, h1, h2 => by
    obtain ⟨i1, i2, i3, i4⟩ := zig_fit hL he heL heE r L (j + 1) hL (Int.le_refl _)
    refine ⟨by simp [zig, i1], ?_, ?_, ?_⟩
    · intro k hk
      simp only [zig, List.mem_cons] at hk
      rcases hk with rfl | hk
      · omega
      · exact i2 k hk
    · rw [mul_succ2]
      simp only [zig, sum, i3]
      omega
    · simp only [zig, okS, Bool.and_eq_true, decide_eq_true_eq]
      have e1 : ln (- sg j * c) (c + L) j = sg j * L := by
        rw [ln_sg]
        rcases sg_cases j with hs | hs <;> rw [hs] <;> omega
      rw [e1]
      have e2 : sg j * L = - sg (j + 1) * L := by rw [sg_succ]; simp
      refine ⟨?_, by rw [e2]; exact i4⟩
      rcases sg_cases j with hs | hs <;> rw [hs] <;> omega
theorem exists_fit {n L e : Int} {m : Nat} (hL : 1 ≤ L) (hn : 1 ≤ n) (heL : e ≤ L) (he : 0 ≤ endF n e) (hm : n ≤ 2 * L * (m : Int) + endF n e) (hl : m = 0 ∨ 2 * L * ((m - 1 : Nat) : Int) + endF n e < n) : ∃ ks, Fit n L e (m + 1) 0 0 0 ks := by
  have hee : endF n e ≤ e := by unfold endF; split <;> omega
  have hpar : (n - endF n e) % 2 = 0 := by unfold endF; split <;> omega
  cases m with
  | zero =>
    have hm' : n ≤ endF n e := by simpa using hm
    refine ⟨[n], rfl, by simp; exact hn, by simp [sum], ?_⟩
    simp only [okS, ln_sg, sg, Bool.and_eq_true, decide_eq_true_eq]
    simp
    omega
  | succ m =>
    have hl' : 2 * L * (m : Int) + endF n e < n := by simpa using hl
    rw [mul_succ2] at hm
    generalize hX : 2 * L * (m : Int) = X at hm hl'
    have hXe : X % 2 = 0 := by rw [← hX, Int.mul_assoc]; exact Int.mul_emod_right 2 _
    have ha : 1 ≤ (n - endF n e - X) / 2 ∧ (n - endF n e - X) / 2 ≤ L := by omega
    obtain ⟨z1, z2, z3, z4⟩ := zig_fit (E := e) hL he (by omega) hee m ((n - endF n e - X) / 2) 1 ha.1 ha.2
    refine ⟨(n - endF n e - X) / 2 :: zig L (endF n e) (m + 1) ((n - endF n e - X) / 2), by simp [z1], ?_, ?_, ?_⟩
    · intro k hk
      rcases List.mem_cons.1 hk with rfl | hk
      · exact ha.1
      · exact z2 k hk
    · simp only [sum, z3, hX]
      omega
    · have e1 : ln 0 ((n - endF n e - X) / 2) 0 = - sg 1 * ((n - endF n e - X) / 2) := by simp [ln, sg]
      rw [okS, e1]
      simp only [Bool.and_eq_true, decide_eq_true_eq]
      refine ⟨?_, z4⟩
      simp [sg]
      omega
end Go.Stk
namespace Go.Proofs.Ytbkifahfbcalaaa
open Go.Am Go.Stk
variable {h : CallFn}

theorem leanF_ln (x k : Int) (j : Nat) : leanF x k j = ln x k j := by
  unfold leanF ln
  have : (j : Int).tmod 2 = 1 ↔ j % 2 = 1 := by rw [Int.tmod_eq_emod_of_nonneg (by omega)]; omega
  simp only [this]
/-- a layer that is not allowed -/
def badLayer : AV → Bool
  | .int _ n => !(decide (1 ≤ n) && decide (n ≤ 200))
  | _ => false
theorem bad70_con (hh : Hk h) (n : Int) : Con h 70 [.int .i64 n] (.bool (!(decide (1 ≤ n) && decide (n ≤ 200)))) := by
  obtain ⟨K, hw⟩ := within_con hh n 1 200
  refine .of K fun f hf => ?_
  rw [f70_eq (hh _ _ _ (by decide))]
  simp [f70_fin_normal, f70_fin_ret, c70_0_run, c70_1_run, c70_2_run, c70_3_run, c70_4_run, seqX, pCall_free, hw f hf, aret_free]
/-- what Straight says of a list of layers -/
def straightF (l : List Int) (lim e : Int) : Bool × Int :=
  if 200 < l.length then (false, 2)
  else if l = [] ∨ lim < 0 ∨ e < 0 ∨ (l.any fun n => !(decide (1 ≤ n) && decide (n ≤ 200))) = true then (false, 1)
  else (okS lim e l 0 0, 0)
theorem straight_con (hh : Hk h) {l : List Int} {x : AV} (hx : IsRow x (ints l)) {lim e : Int} (hl1 : -9223372036854775808 ≤ lim) (hl2 : lim < 9223372036854775808) (he1 : -9223372036854775808 ≤ e) (he2 : e < 9223372036854775808) (hlen : l.length < 4611686018427387904) :
    Con h 24 [x, .int .i64 lim, .int .i64 e] (.tup [.bool (straightF l lim e).1, .int .i64 (straightF l lim e).2]) := by
  have hlen22 := len22_row (H := ⟨0, [], []⟩) hx.of
  rw [ints_length] at hlen22
  have hxf := hx.free
  have hxr := hx.notRow
  obtain ⟨K1, hbad⟩ := has20_con hh hx elems_ints (g := 70) (fs := []) (cs := []) rfl rfl ⟨rfl, rfl⟩ (p := badLayer) (fun y hy => by
    simp only [ints, List.mem_map] at hy
    obtain ⟨n, _, rfl⟩ := hy
    exact bad70_con hh n) (by simpa using hlen)
  have hany : (ints l).any badLayer = l.any fun n => !(decide (1 ≤ n) && decide (n ≤ 200)) := by simp [ints, List.any_map, Function.comp_def, badLayer]
  rw [hany] at hbad
  by_cases h200 : 200 < l.length
  · refine .of 0 fun k _ => ?_
    rw [f24_eq (hh _ _ _ (by decide))]
    have h200i : (200 : Int) < (l.length : Int) := by omega
    simp [f24_fin_normal, f24_fin_ret, c24_0_run, c24_1_run, c24_2_run, c24_3_run, c24_4_run, c24_5_run, c24_6_run, c24_7_run, c24_8_run, c24_9_run, c24_10_run, seqX, hlen22, h200i, h200, aret_free, straightF]
  have h200i : ¬ ((200 : Int) < (l.length : Int)) := by omega
  by_cases hb : l = [] ∨ lim < 0 ∨ e < 0 ∨ (l.any fun n => !(decide (1 ≤ n) && decide (n ≤ 200))) = true
  · refine .of K1 fun k hk => ?_
    rw [f24_eq (hh _ _ _ (by decide))]
    have hs : straightF l lim e = (false, 1) := by simp only [straightF, if_neg h200, if_pos hb]
    rw [hs]
    have hbk := hbad k hk
    by_cases c1 : l = []
    · simp [f24_fin_normal, f24_fin_ret, c24_0_run, c24_1_run, c24_2_run, c24_3_run, c24_4_run, c24_5_run, c24_6_run, c24_7_run, c24_8_run, c24_9_run, c24_10_run, c24_11_run, c24_12_k1, c24_12_k2, c24_12_run, c24_13_run, c24_14_run, c24_15_run, c24_16_run, c24_17_run, c24_18_run, seqX, hlen22, c1, aret_free]
    by_cases c2 : lim < 0
    · simp [f24_fin_normal, f24_fin_ret, c24_0_run, c24_1_run, c24_2_run, c24_3_run, c24_4_run, c24_5_run, c24_6_run, c24_7_run, c24_8_run, c24_9_run, c24_10_run, c24_11_run, c24_12_k1, c24_12_k2, c24_12_run, c24_13_run, c24_14_run, c24_15_run, c24_16_run, c24_17_run, c24_18_run, seqX, hlen22, h200i, c1, c2, aret_free]
    by_cases c3 : e < 0
    · simp [f24_fin_normal, f24_fin_ret, c24_0_run, c24_1_run, c24_2_run, c24_3_run, c24_4_run, c24_5_run, c24_6_run, c24_7_run, c24_8_run, c24_9_run, c24_10_run, c24_11_run, c24_12_k1, c24_12_k2, c24_12_run, c24_13_run, c24_14_run, c24_15_run, c24_16_run, c24_17_run, c24_18_run, seqX, hlen22, h200i, c1, c2, c3, aret_free]
    have c4 : (l.any fun n => !(decide (1 ≤ n) && decide (n ≤ 200))) = true := by
      rcases hb with h | h | h | h
      · exact absurd h c1
      · exact absurd h c2
      · exact absurd h c3
      · exact h
    rw [c4] at hbk
    simp [f24_fin_normal, f24_fin_ret, c24_0_run, c24_1_run, c24_2_run, c24_3_run, c24_4_run, c24_5_run, c24_6_run, c24_7_run, c24_8_run, c24_9_run, c24_10_run, c24_11_run, c24_12_k1, c24_12_k2, c24_12_run, c24_13_run, c24_14_run, c24_15_run, c24_16_run, c24_17_run, c24_18_run, seqX, hlen22, h200i, c1, c2, c3, pCall_free, hxf, hxr, hbk, aret_free]
  · have hs : straightF l lim e = (okS lim e l 0 0, 0) := by simp only [straightF, if_neg h200, if_neg hb]
    rw [hs]
    simp only [not_or] at hb
    obtain ⟨c1, c2, c3, c4⟩ := hb
    have c4' : (l.any fun n => !(decide (1 ≤ n) && decide (n ≤ 200))) = false := by simpa using c4
    have hxv := hx.vs (by intro h; exact c1 (by simpa [ints] using h))
    subst hxv
    have hpos : ∀ n ∈ l, 1 ≤ n ∧ n ≤ 200 := by
      intro n hn
      have := List.any_eq_false.1 c4' n hn
      simpa using this
    have hloop : ∀ (d i : Nat), l.length - i = d → i ≤ l.length → ∀ x : Int, -200 * i ≤ x → x ≤ 200 * i → ∀ x0 x3 x4 x6 x7 x8 x9 x13 x14 : AV,
        LoopQ (bodyOf h an24 c24_25) [false, true, true, false, false, true, false, false, false, false, true, true, true, false, false] [x0, .int .i64 lim, .int .i64 e, x3, x4, .int .i64 x, x6, x7, x8, x9, .vs (ints l), .int .i64 l.length, .int .i64 i, x13, x14] ⟨0, [], []⟩ fun ex fr' H' => H' = ⟨0, [], []⟩ ∧
        ((ex = .ret ∧ okS lim e (l.drop i) x i = false ∧ ∃ y0 y1 y2 y5 y6 y7 y8 y9 y10 y11 y12 y13 y14, fr' = [y0, y1, y2, .bool false, .int .i64 0, y5, y6, y7, y8, y9, y10, y11, y12, y13, y14]) ∨
         (ex = .exit 0 ∧ ∃ x' : Int, okS lim e (l.drop i) x i = (decide (-e ≤ x') && decide (x' ≤ e)) ∧ -200 * 200 ≤ x' ∧ x' ≤ 200 * 200 ∧ ∃ y0 y3 y4 y6 y7 y8 y9 y10 y11 y12 y13 y14, fr' = [y0, .int .i64 lim, .int .i64 e, y3, y4, .int .i64 x', y6, y7, y8, y9, y10, y11, y12, y13, y14])) := by
      intro d
      induction d with
      | zero =>
        intro i hd hi x hx1 hx2 x0 x3 x4 x6 x7 x8 x9 x13 x14
        have : i = l.length := by omega
        subst this
        apply LoopQ.exit 0 (canon_free (by simp))
        case h => intro k _; simp [c24_25_run, c24_26_run, c24_27_run, c24_28_run, c24_29_run, c24_30_run, c24_31_run, c24_32_run, c24_33_run, c24_34_run, c24_35_run, c24_36_run, c24_37_run, c24_38_run, c24_39_run, c24_40_run, c24_41_run, c24_42_run, c24_43_run, c24_44_run, seqX, blockX, -Option.some.injEq]; rfl
        · simp
        · exact ⟨rfl, .inr ⟨rfl, x, by simp [okS], by omega, by omega, _, _, _, _, _, _, _, _, _, _, _, _, rfl⟩⟩
      | succ d ih =>
        intro i hd hi x hx1 hx2 x0 x3 x4 x6 x7 x8 x9 x13 x14
        have hil : i < l.length := by omega
        have hg : l[i]? = some l[i] := List.getElem?_eq_getElem hil
        have hy : (ints l)[i]? = some (.int .i64 l[i]) := by rw [ints_get, hg]; rfl
        have hp := hpos _ (List.getElem_mem hil)
        have hdrop : l.drop i = l[i] :: l.drop (i + 1) := List.drop_eq_getElem_cons hil
        obtain ⟨K2, hln⟩ := lean_con hh x l[i] i (by omega) (by omega) (by omega) (by omega)
        rw [leanF_ln] at hln
        have hx' : -200 * ((i + 1 : Nat) : Int) ≤ ln x l[i] i ∧ ln x l[i] i ≤ 200 * ((i + 1 : Nat) : Int) := by unfold ln; split <;> omega
        obtain ⟨K3, hkp⟩ := keeps_con hh (ln x l[i] i) lim (by omega) (by omega)
        have hw : IntKind.i64.wrap ((i : Int) + 1) = ((i + 1 : Nat) : Int) := by rw [wrap_i64 (by omega) (by omega)]; simp
        by_cases hin : -lim ≤ ln x l[i] i ∧ ln x l[i] i ≤ lim
        · apply LoopQ.step (max K2 K3) (canon_free (by simp))
          case h =>
            intro k hk
            have e1 := hln k (by omega)
            have e2 := hkp k (by omega)
            simp [c24_25_run, c24_26_run, c24_27_run, c24_28_run, c24_29_run, c24_30_run, c24_31_run, c24_32_run, c24_33_run, c24_34_run, c24_35_run, c24_36_run, c24_37_run, c24_38_run, c24_39_run, c24_40_run, c24_41_run, c24_42_run, c24_43_run, c24_44_run, seqX, blockX, hil, idx22_vs hy rfl, pCall_free, e1, e2, hin.1, hin.2, hw, -Option.some.injEq]; rfl
          have he : okS lim e (l.drop i) x i = okS lim e (l.drop (i + 1)) (ln x l[i] i) (i + 1) := by rw [hdrop, okS]; simp [hin.1, hin.2]
          rw [he]
          exact ih (i + 1) (by omega) (by omega) _ hx'.1 hx'.2 _ _ _ _ _ _ _ _ _
        · apply LoopQ.exit (max K2 K3) (canon_free (by simp))
          case h =>
            intro k hk
            have e1 := hln k (by omega)
            have e2 := hkp k (by omega)
            have e3 : (decide (-lim ≤ ln x l[i] i) && decide (ln x l[i] i ≤ lim)) = false := by simp; omega
            rw [e3] at e2
            simp [c24_25_run, c24_26_run, c24_27_run, c24_28_run, c24_29_run, c24_30_run, c24_31_run, c24_32_run, c24_33_run, c24_34_run, c24_35_run, c24_36_run, c24_37_run, c24_38_run, c24_39_run, c24_40_run, c24_41_run, c24_42_run, c24_43_run, c24_44_run, seqX, blockX, hil, idx22_vs hy rfl, pCall_free, e1, e2, -Option.some.injEq]; rfl
          · simp
          · have he : okS lim e (l.drop i) x i = false := by rw [hdrop, okS]; simp; omega
            exact ⟨rfl, .inl ⟨rfl, he, _, _, _, _, _, _, _, _, _, _, _, _, _, rfl⟩⟩
    obtain ⟨ex, fr', H', ⟨K2, hl2⟩, rfl, hQ⟩ := hloop l.length 0 (by omega) (by omega) 0 (by omega) (by omega) (.vs (ints l)) (.bool false) (.int .i64 0) .undef .undef (.bool false) (.bool false) .undef .undef
    simp only [bodyOf, Int.natCast_zero, List.drop_zero] at hl2 hQ
    rcases hQ with ⟨rfl, hok, y0, y1, y2, y5, y6, y7, y8, y9, y10, y11, y12, y13, y14, rfl⟩ | ⟨rfl, x', hok, hx1, hx2, y0, y3, y4, y6, y7, y8, y9, y10, y11, y12, y13, y14, rfl⟩
    · refine .of (max K1 K2) fun k hk => ?_
      rw [f24_eq (hh _ _ _ (by decide))]
      have hbk := hbad k (by omega)
      rw [c4'] at hbk
      have hlk := hl2 k (by omega) k (by omega)
      simp [f24_fin_normal, f24_fin_ret, c24_0_run, c24_1_run, c24_2_run, c24_3_run, c24_4_run, c24_5_run, c24_6_run, c24_7_run, c24_8_run, c24_9_run, c24_10_run, c24_11_run, c24_12_k1, c24_12_k2, c24_12_run, c24_13_run, c24_14_run, c24_15_run, c24_16_run, c24_17_run, c24_18_run, c24_19_run, c24_20_run, c24_21_run, c24_22_run, c24_23_run, c24_24_run, seqX, blockX, h200i, c1, c2, c3, pCall_free, hbk, hlk, hok, aret_free]
    · obtain ⟨K3, hkp⟩ := keeps_con hh x' e (by omega) (by omega)
      refine .of (max (max K1 K2) K3) fun k hk => ?_
      rw [f24_eq (hh _ _ _ (by decide))]
      have hbk := hbad k (by omega)
      rw [c4'] at hbk
      have hlk := hl2 k (by omega) k (by omega)
      have hkk := hkp k (by omega)
      simp [f24_fin_normal, f24_fin_ret, c24_0_run, c24_1_run, c24_2_run, c24_3_run, c24_4_run, c24_5_run, c24_6_run, c24_7_run, c24_8_run, c24_9_run, c24_10_run, c24_11_run, c24_12_k1, c24_12_k2, c24_12_run, c24_13_run, c24_14_run, c24_15_run, c24_16_run, c24_17_run, c24_18_run, c24_19_run, c24_20_run, c24_21_run, c24_22_run, c24_23_run, c24_24_run, c24_25_run, c24_26_run, c24_27_run, c24_28_run, c24_29_run, c24_30_run, c24_31_run, c24_32_run, c24_33_run, c24_34_run, c24_35_run, c24_36_run, c24_37_run, c24_38_run, c24_39_run, c24_40_run, c24_41_run, c24_42_run, c24_43_run, c24_44_run, c24_45_run, c24_46_run, c24_47_run, seqX, blockX, h200i, c1, c2, c3, pCall_free, hbk, hlk, hkk, hok, aret_free]
end Go.Proofs.Ytbkifahfbcalaaa
namespace Go.Proofs.Ytbkifahfbcalaaa
open Go.Am Go.Stk
variable {h : CallFn}

/-- a stack that is to be made -/
def stackV (n L e : Int) : AV := .agg [.int .i64 n, .int .i64 L, .int .i64 e]
/-- the least number of layers, less one -/
def LeastM (n L e : Int) (m : Nat) : Prop := n ≤ 2 * L * (m : Int) + endF n e ∧ (m = 0 ∨ 2 * L * ((m - 1 : Nat) : Int) + endF n e < n)
theorem mul_le200 {L : Int} {m : Nat} (h1 : 1 ≤ L) (h2 : L ≤ 200) (hm : m ≤ 200) : 2 * (m : Int) ≤ 2 * L * (m : Int) ∧ 2 * L * (m : Int) ≤ 400 * (m : Int) :=
  ⟨Int.mul_le_mul_of_nonneg_right (by omega) (by omega), Int.mul_le_mul_of_nonneg_right (by omega) (by omega)⟩
theorem least_con (hh : Hk h) {n L e : Int} (hn1 : 1 ≤ n) (hn2 : n ≤ 200) (hL1 : 1 ≤ L) (hL2 : L ≤ n) (he1 : 0 ≤ e) (he2 : e ≤ L) :
    (endF n e < 0 → Con h 73 [stackV n L e] (.tup [.int .i64 0, .bool false])) ∧ (0 ≤ endF n e → ∃ m : Nat, m ≤ 200 ∧ LeastM n L e m ∧ Con h 73 [stackV n L e] (.tup [.int .i64 ((m : Int) + 1), .bool true])) := by
  have w1 : IntKind.i64.wrap (n - e) = n - e := wrap_i64 (by omega) (by omega)
  have w2 : IntKind.i64.wrap (e - 1) = e - 1 := wrap_i64 (by omega) (by omega)
  have w3 : IntKind.i64.wrap (2 * L) = 2 * L := wrap_i64 (by omega) (by omega)
  have htm : (n - e).tmod 2 = (n - e) % 2 := Int.tmod_eq_emod_of_nonneg (by omega)
  have hend : endF n e = if (n - e) % 2 = 0 then e else e - 1 := by unfold endF; by_cases hp : (n - e) % 2 = 0 <;> simp [hp]
  have heb : -1 ≤ endF n e ∧ endF n e ≤ e := by rw [hend]; split <;> omega
  refine ⟨fun hneg => ?_, fun hpos => ?_⟩
  · refine .of 0 fun k _ => ?_
    rw [stackV, f73_eq (hh _ _ _ (by decide))]
    have hp : ¬ (n - e) % 2 = 0 := by intro h; rw [hend, if_pos h] at hneg; omega
    have he0 : e - 1 < 0 := by rw [hend, if_neg hp] at hneg; omega
    simp [f73_fin_normal, f73_fin_ret, c73_0_run, c73_1_run, c73_2_run, c73_3_run, c73_4_run, c73_5_run, c73_6_run, c73_7_run, c73_8_run, c73_9_run, c73_10_run, c73_11_run, c73_12_run, c73_13_run, c73_14_run, c73_15_run, c73_16_run, c73_17_run, c73_18_run, seqX, pBox, AV.okElem, w1, w2, htm, hp, he0, aret_free]
  · have hloop : ∀ (d m : Nat), 200 - m = d → m ≤ 200 → (m = 0 ∨ 2 * L * ((m - 1 : Nat) : Int) + endF n e < n) → ∀ x0 x2 x3 x13 x17 x28 : AV,
        LoopQ (bodyOf h an73 c73_23) [false, true, false, false, true, true, false, false, false] [x0, .ip [.int .i64 n, .int .i64 L, .int .i64 e] 0, x2, x3, .int .i64 (endF n e), .int .i64 ((m : Int) + 1), x13, x17, x28] ⟨0, [], []⟩ fun ex fr' H' => H' = ⟨0, [], []⟩ ∧
        ex = .exit 0 ∧ ∃ m' : Nat, m' ≤ 200 ∧ LeastM n L e m' ∧ ∃ y0 y1 y2 y3 y4 y6 y7 y8, fr' = [y0, y1, y2, y3, y4, .int .i64 ((m' : Int) + 1), y6, y7, y8] := by
      intro d
      induction d with
      | zero =>
        intro m hd hm hlo x0 x2 x3 x13 x17 x28
        obtain ⟨b1, b2⟩ := mul_le200 hL1 (by omega) hm
        have w4 : IntKind.i64.wrap (m : Int) = m := wrap_i64 (by omega) (by omega)
        have w5 : IntKind.i64.wrap (2 * L * (m : Int)) = 2 * L * (m : Int) := wrap_i64 (by omega) (by omega)
        have w6 : IntKind.i64.wrap (2 * L * (m : Int) + endF n e) = 2 * L * (m : Int) + endF n e := wrap_i64 (by omega) (by omega)
        have hle : n ≤ 2 * L * (m : Int) + endF n e := by omega
        have hnl : ¬ 2 * L * (m : Int) + endF n e < n := by omega
        apply LoopQ.exit 0 (canon_free (by simp))
        case h => intro k _; simp [c73_23_run, c73_24_run, c73_25_k1, c73_25_k2, c73_25_run, c73_26_run, c73_27_run, c73_28_run, c73_29_run, c73_30_run, seqX, blockX, w3, w4, w5, w6, hnl, -Option.some.injEq]; rfl
        · simp
        · exact ⟨rfl, rfl, m, hm, ⟨hle, hlo⟩, _, _, _, _, _, _, _, _, rfl⟩
      | succ d ih =>
        intro m hd hm hlo x0 x2 x3 x13 x17 x28
        obtain ⟨b1, b2⟩ := mul_le200 hL1 (by omega) hm
        have w4 : IntKind.i64.wrap (m : Int) = m := wrap_i64 (by omega) (by omega)
        have w5 : IntKind.i64.wrap (2 * L * (m : Int)) = 2 * L * (m : Int) := wrap_i64 (by omega) (by omega)
        have w6 : IntKind.i64.wrap (2 * L * (m : Int) + endF n e) = 2 * L * (m : Int) + endF n e := wrap_i64 (by omega) (by omega)
        have w7 : IntKind.i64.wrap ((m : Int) + 1 + 1) = ((m + 1 : Nat) : Int) + 1 := by rw [wrap_i64 (by omega) (by omega)]; omega
        by_cases hlt : 2 * L * (m : Int) + endF n e < n
        · apply LoopQ.step 0 (canon_free (by simp))
          case h => intro k _; simp [c73_23_run, c73_24_run, c73_25_k1, c73_25_k2, c73_25_run, c73_26_run, c73_27_run, c73_28_run, c73_29_run, c73_30_run, seqX, blockX, w3, w4, w5, w6, w7, hlt, -Option.some.injEq, -Int.natCast_add]; rfl
          exact ih (m + 1) (by omega) (by omega) (.inr (by simpa using hlt)) _ _ _ _ _ _
        · apply LoopQ.exit 0 (canon_free (by simp))
          case h => intro k _; simp [c73_23_run, c73_24_run, c73_25_k1, c73_25_k2, c73_25_run, c73_26_run, c73_27_run, c73_28_run, c73_29_run, c73_30_run, seqX, blockX, w3, w4, w5, w6, hlt, -Option.some.injEq]; rfl
          · simp
          · exact ⟨rfl, rfl, m, hm, ⟨by omega, hlo⟩, _, _, _, _, _, _, _, _, rfl⟩
    obtain ⟨ex, fr', H', ⟨K, hl⟩, rfl, rfl, m, hm1, hm2, y0, y1, y2, y3, y4, y6, y7, y8, rfl⟩ := hloop 200 0 (by omega) (by omega) (.inl rfl) (stackV n L e) (.int .i64 0) (.bool false) (.bool (decide ((n - e) % 2 ≠ 0))) (.bool false) .undef
    simp only [bodyOf, Int.natCast_zero, Int.zero_add] at hl
    refine ⟨m, hm1, hm2, .of K fun k hk => ?_⟩
    rw [stackV, f73_eq (hh _ _ _ (by decide))]
    have hlk := hl k hk k hk
    have hnn : ¬ endF n e < 0 := by omega
    by_cases hp : (n - e) % 2 = 0
    · have hE : endF n e = e := by rw [hend, if_pos hp]
      rw [hE] at hlk hnn
      simp only [stackV, hp] at hlk
      simp [f73_fin_normal, f73_fin_ret, c73_0_run, c73_1_run, c73_2_run, c73_3_run, c73_4_run, c73_5_run, c73_6_run, c73_7_run, c73_8_run, c73_9_run, c73_10_run, c73_11_run, c73_12_run, c73_13_run, c73_14_run, c73_15_run, c73_16_run, c73_17_run, c73_18_run, c73_19_run, c73_20_run, c73_21_run, c73_22_run, c73_23_run, c73_24_run, c73_25_k1, c73_25_k2, c73_25_run, c73_26_run, c73_27_run, c73_28_run, c73_29_run, c73_30_run, c73_31_run, c73_32_run, c73_33_run, seqX, blockX, pBox, AV.okElem, w1, w2, htm, hp, hnn, aret_free]
      simp at hlk
      simp [hlk, c73_31_run, c73_32_run, c73_33_run, f73_fin_ret, aret_free]
    · have hE : endF n e = e - 1 := by rw [hend, if_neg hp]
      rw [hE] at hlk hnn
      simp only [stackV, hp] at hlk
      simp [f73_fin_normal, f73_fin_ret, c73_0_run, c73_1_run, c73_2_run, c73_3_run, c73_4_run, c73_5_run, c73_6_run, c73_7_run, c73_8_run, c73_9_run, c73_10_run, c73_11_run, c73_12_run, c73_13_run, c73_14_run, c73_15_run, c73_16_run, c73_17_run, c73_18_run, c73_19_run, c73_20_run, c73_21_run, c73_22_run, c73_23_run, c73_24_run, c73_25_k1, c73_25_k2, c73_25_run, c73_26_run, c73_27_run, c73_28_run, c73_29_run, c73_30_run, c73_31_run, c73_32_run, c73_33_run, seqX, blockX, pBox, AV.okElem, w1, w2, htm, hp, hnn, aret_free]
      simp [hp] at hlk
      simp [hlk, c73_31_run, c73_32_run, c73_33_run, f73_fin_ret, aret_free]
end Go.Proofs.Ytbkifahfbcalaaa
namespace Go.Proofs.Ytbkifahfbcalaaa
open Go.Am Go.Stk
variable {h : CallFn}

/-- the table's rows, as the reference to them stands -/
def rowT (N L E r j u : Nat) : List Bool := (List.range (2 * L + 1)).map fun (i : Nat) => fits N L E r j u ((i : Int) - L)
def tabT (N L E r j : Nat) : List AV := (List.range (N + 1)).map fun u => .vs (bools (rowT N L E r j u))
/-- one more layer's row, from k on -/
def anyFrom (N L E r j u : Nat) (x : Int) (k : Nat) : Prop := ∃ q : Nat, k ≤ q ∧ u + q ≤ N ∧ (-(L : Int) ≤ ln x q j ∧ ln x q j ≤ L) ∧ fits N L E r (j + 1) (u + q) (ln x q j) = true
theorem fits_succ {N L E r j u : Nat} {x : Int} : fits N L E (r + 1) j u x = true ↔ anyFrom N L E r j u x 1 := by
  simp only [fits, List.any_eq_true, List.mem_range, Bool.and_eq_true, decide_eq_true_eq]
  constructor
  · rintro ⟨i, hi, h1, h2⟩
    refine ⟨i + 1, by omega, by omega, ?_, ?_⟩
    · simpa using h1
    · simpa using h2
  · rintro ⟨q, h1, h2, h3, h4⟩
    refine ⟨q - 1, by omega, ?_, ?_⟩
    · have e : ((q - 1 : Nat) : Int) + 1 = q := by omega
      rw [e]; exact h3
    · have e : ((q - 1 : Nat) : Int) + 1 = q := by omega
      rw [e]; exact h4
theorem rowT_get {N L E r j u i : Nat} (hi : i < 2 * L + 1) : (rowT N L E r j u)[i]? = some (fits N L E r j u ((i : Int) - L)) := by
  simp [rowT, hi]
theorem tabT_get {N L E r j u : Nat} (hu : u < N + 1) : (tabT N L E r j)[u]? = some (.vs (bools (rowT N L E r j u))) := by
  simp [tabT, hu]
theorem rowT_length {N L E r j u : Nat} : (rowT N L E r j u).length = 2 * L + 1 := by simp [rowT]

/-- the memory in the inner loops: the table (its row j perhaps live in block 1), and the row b that is made -/
structure Mem (es : List AV) (p : Bool) (cur : List AV) (b : Nat) (row : List Bool) (H : Heap) : Prop where
  t : H.get 0 = some (.sl 0 1 p es)
  c : b = 1 ∨ (b = 2 ∧ H.get 1 = some (.sl 0 1 true cur))
  r : H.get b = some (.sl 0 1 true (bools row))
  o : H.outer = []
  n : b < H.next
/-- the table's elements: nothing live but, if b is 2, the block 1 -/
structure Tab (es : List AV) (p : Bool) (b : Nat) : Prop where
  refs : (ABlk.sl 0 1 p es).refs = if b = 2 then [1] else []
  ren : ∀ f : Nat → Nat → Option (Nat × Nat), f 1 0 = some (1, 0) → p = false → AV.renL f es = es
  ok : ABlk.okRow (.sl 0 1 p es) = true
/-- the memory packed -/
def packM (es : List AV) (p : Bool) (cur : List AV) (b : Nat) (row : List Bool) : Heap :=
  if b = 2 then ⟨3, [(0, .sl 0 1 p es), (1, .sl 0 1 true cur), (2, .sl 0 1 true (bools row))], []⟩ else ⟨2, [(0, .sl 0 1 p es), (1, .sl 0 1 true (bools row))], []⟩
theorem packM_mem {es : List AV} {p : Bool} {cur : List AV} {b : Nat} {row : List Bool} (hb : b = 1 ∨ b = 2) : Mem es p cur b row (packM es p cur b row) := by
  rcases hb with rfl | rfl
  · exact ⟨rfl, .inl rfl, rfl, rfl, Nat.le_refl 2⟩
  · exact ⟨rfl, .inr ⟨rfl, rfl⟩, rfl, rfl, Nat.le_refl 3⟩
theorem mem_canon {es : List AV} {p : Bool} {cur : List AV} {b : Nat} {row : List Bool} {H : Heap} {keep : List Bool} {fr : List AV} (hM : Mem es p cur b row H) (hT : Tab es p b)
    (hf : AV.refsL (mask fr keep) = [0, b]) (hn : ∀ f : Nat → Nat → Option (Nat × Nat), f 0 0 = some (0, 0) → f b 0 = some (b, 0) → AV.renL f (mask fr keep) = mask fr keep) : canon true 0 keep fr H = (mask fr keep, packM es p cur b row) := by
  have h0 := hM.t
  have hr := hM.r
  rcases hM.c with rfl | ⟨rfl, h1⟩
  · have hre : (ABlk.sl 0 1 p es).refs = [] := by simpa using hT.refs
    have hreach := reached_2 hf h0 hre hr (by rfl)
    have hidx : toIdx H [0, 1] (freshBut 0) 0 0 = some (0, 0) ∧ toIdx H [0, 1] (freshBut 0) 1 0 = some (1, 0) := by
      constructor
      · unfold toIdx; rw [h0]; rfl
      · unfold toIdx; rw [hr]; rfl
    have hren : (ABlk.sl 0 1 p es).ren (toIdx H [0, 1] (freshBut 0)) (freshBut 0 0) = .sl 0 1 p es := by
      cases p with
      | true => simp [ABlk.ren, freshBut]
      | false => simp [ABlk.ren, freshBut, hT.ren _ hidx.2 rfl]
    have hp : pack H [0, 1] (freshBut 0) = [.sl 0 1 p es, .sl 0 1 true (bools row)] := by
      simp only [pack, List.filterMap_cons, List.filterMap_nil, h0, hr, Option.map_some, hren]
      simp [ABlk.ren, freshBut]
    rw [canon_of hreach hp rfl (by simp only [List.all_cons, hT.ok, List.all_nil, Bool.and_true, Bool.true_and]; rfl) hM.o (hn _ hidx.1 hidx.2)]
    rfl
  · have hre : (ABlk.sl 0 1 p es).refs = [1] := by simpa using hT.refs
    have hreach := reached_1_2 hf h0 hre h1 (by rfl) hr (by rfl)
    have hidx : toIdx H [0, 1, 2] (freshBut 0) 0 0 = some (0, 0) ∧ toIdx H [0, 1, 2] (freshBut 0) 1 0 = some (1, 0) ∧ toIdx H [0, 1, 2] (freshBut 0) 2 0 = some (2, 0) := by
      refine ⟨?_, ?_, ?_⟩
      · unfold toIdx; rw [h0]; rfl
      · unfold toIdx; rw [h1]; rfl
      · unfold toIdx; rw [hr]; rfl
    have hren : (ABlk.sl 0 1 p es).ren (toIdx H [0, 1, 2] (freshBut 0)) (freshBut 0 0) = .sl 0 1 p es := by
      cases p with
      | true => simp [ABlk.ren, freshBut]
      | false => simp [ABlk.ren, freshBut, hT.ren _ hidx.2.1 rfl]
    have hp : pack H [0, 1, 2] (freshBut 0) = [.sl 0 1 p es, .sl 0 1 true cur, .sl 0 1 true (bools row)] := by
      simp only [pack, List.filterMap_cons, List.filterMap_nil, h0, h1, hr, Option.map_some, hren]
      simp [ABlk.ren, freshBut]
    rw [canon_of hreach hp rfl (by simp only [List.all_cons, hT.ok, List.all_nil, Bool.and_true, Bool.true_and]; rfl) hM.o (hn _ hidx.1 hidx.2.2)]
    rfl
end Go.Proofs.Ytbkifahfbcalaaa
