/-
  MAIL: contracts: cmp.Compare, slices.Compare. Own work.
  MAIL: the law MailTurned: its two loops. Own work.
  MAIL: the law MailTurned: its second loop. Own work.
  MAIL: the law MailTurned on the machine. Own work.
-/
import Derived.Test.YtbkifahfbcalaaaZi
import Derived.Test.YtbkifahfbcalaaaZf
set_option linter.unusedSimpArgs false
set_option linter.unusedVariables false
namespace Go.Proofs.Ytbkifahfbcalaaa
open Go.Am Go.Stk
variable {h : CallFn}

def cmpI (a b : Int) : Int := if a < b then -1 else if b < a then 1 else 0
theorem nan117_con (hh : Hk h) (a : Int) : Con h 117 [.int .i64 a] (.bool false) := by
  refine .of 0 fun k _ => ?_
  rw [f117_eq (hh _ _ _ (by decide))]
  simp [-Option.bind_some, f117_fin_normal, f117_fin_ret, c117_0_run, c117_1_run, c117_2_run, c117_3_run, c117_4_run, seqX, aret_free]
theorem cmp75_con (hh : Hk h) (a b : Int) : Con h 75 [.int .i64 a, .int .i64 b] (.int .i64 (cmpI a b)) := by
  obtain ⟨K1, h1⟩ := nan117_con hh a
  obtain ⟨K2, h2⟩ := nan117_con hh b
  refine .of (max K1 K2) fun k hk => ?_
  have e1 := h1 k (by omega)
  have e2 := h2 k (by omega)
  rw [f75_eq (hh _ _ _ (by decide))]
  by_cases c1 : a < b
  · simp [-Option.bind_some, f75_fin_normal, f75_fin_ret, c75_0_run, c75_1_run, c75_2_run, c75_3_run, c75_4_run, c75_5_run, c75_6_run, c75_7_run, c75_8_run, c75_9_run, c75_10_run, c75_11_run, c75_12_run, c75_13_run, c75_14_run, c75_15_run, c75_16_run, c75_17_run, c75_18_run, c75_19_run, c75_20_run, c75_21_run, c75_22_run, c75_23_run, c75_24_run, c75_25_run, c75_26_run, c75_27_run, c75_28_run, c75_29_run, c75_30_run, c75_31_run, c75_32_run, c75_33_run, c75_34_run, c75_35_run, c75_36_run, c75_37_run, c75_38_run, c75_39_run, c75_40_run, c75_41_run, c75_42_run, c75_43_run, c75_44_run, c75_45_run, c75_46_run, c75_47_run, c75_48_run, seqX, e1, e2, pCall_free, c1, cmpI, aret_free]
  · by_cases c2 : b < a
    · simp [-Option.bind_some, f75_fin_normal, f75_fin_ret, c75_0_run, c75_1_run, c75_2_run, c75_3_run, c75_4_run, c75_5_run, c75_6_run, c75_7_run, c75_8_run, c75_9_run, c75_10_run, c75_11_run, c75_12_run, c75_13_run, c75_14_run, c75_15_run, c75_16_run, c75_17_run, c75_18_run, c75_19_run, c75_20_run, c75_21_run, c75_22_run, c75_23_run, c75_24_run, c75_25_run, c75_26_run, c75_27_run, c75_28_run, c75_29_run, c75_30_run, c75_31_run, c75_32_run, c75_33_run, c75_34_run, c75_35_run, c75_36_run, c75_37_run, c75_38_run, c75_39_run, c75_40_run, c75_41_run, c75_42_run, c75_43_run, c75_44_run, c75_45_run, c75_46_run, c75_47_run, c75_48_run, seqX, e1, e2, pCall_free, c1, c2, cmpI, aret_free]
    · simp [-Option.bind_some, f75_fin_normal, f75_fin_ret, c75_0_run, c75_1_run, c75_2_run, c75_3_run, c75_4_run, c75_5_run, c75_6_run, c75_7_run, c75_8_run, c75_9_run, c75_10_run, c75_11_run, c75_12_run, c75_13_run, c75_14_run, c75_15_run, c75_16_run, c75_17_run, c75_18_run, c75_19_run, c75_20_run, c75_21_run, c75_22_run, c75_23_run, c75_24_run, c75_25_run, c75_26_run, c75_27_run, c75_28_run, c75_29_run, c75_30_run, c75_31_run, c75_32_run, c75_33_run, c75_34_run, c75_35_run, c75_36_run, c75_37_run, c75_38_run, c75_39_run, c75_40_run, c75_41_run, c75_42_run, c75_43_run, c75_44_run, c75_45_run, c75_46_run, c75_47_run, c75_48_run, seqX, e1, e2, pCall_free, c1, c2, cmpI, aret_free]
def cmpE : List Int → List Int → Int
  | a :: r, b :: s => if cmpI a b = 0 then cmpE r s else cmpI a b
  | _, _ => 0
theorem cmpE_lle : ∀ {s t : List Int}, s.length = t.length → (cmpE s t ≤ 0 ↔ lle s t = true)
  | [], [], _ => by simp [cmpE, lle]
  | a :: r, b :: s, h => by
    have ih := cmpE_lle (s := r) (t := s) (by simpa using h)
    simp only [cmpE, lle, cmpI, Bool.or_eq_true, Bool.and_eq_true, decide_eq_true_eq]
    by_cases c1 : a < b
    · simp [c1]
    · by_cases c2 : b < a
      · simp [c1, c2]; omega
      · have : a = b := by omega
        subst this
        simp [ih]
  | [], _ :: _, h => by simp at h
  | _ :: _, [], h => by simp at h
theorem cmp26_con (hh : Hk h) {s t : List Int} (hl : s.length = t.length) (hs : s.length < 1000) : Con h 26 [.vs (ints s), .vs (ints t)] (.int .i64 (cmpE s t)) := by
  obtain ⟨K, hK⟩ : ∃ K, ∀ i, i < s.length → ∀ k, K ≤ k → acall Try.prog annOf h k 75 [.int .i64 (s.getD i 0), .int .i64 (t.getD i 0)] [] = some (.int .i64 (cmpI (s.getD i 0) (t.getD i 0)), []) := by
    obtain ⟨K, hK⟩ := unif (l := List.range s.length) (p := fun i k => acall Try.prog annOf h k 75 [.int .i64 (s.getD i 0), .int .i64 (t.getD i 0)] [] = some (.int .i64 (cmpI (s.getD i 0) (t.getD i 0)), [])) (fun i _ => cmp75_con hh _ _)
    exact ⟨K, fun i hi => hK i (List.mem_range.2 hi)⟩
  have hloop : ∀ (m i : Nat), s.length - i = m → i ≤ s.length → ∀ x4 x5 x6 x7 x8 x12 x19 x28 x35 : AV, LoopQ (bodyOf h an26 c26_7) [true, true, false, false, false, false, false, true, true, true, false, false, false, false] [.vs (ints s), .vs (ints t), x4, x5, x6, x7, x8, .vs (ints s), .int .i64 s.length, .int .i64 i, x12, x19, x28, x35] ⟨0, [], []⟩ fun e fr' H' => H' = ⟨0, [], []⟩ ∧
      ((e = .ret ∧ ∃ y0 y1 y3 y4 y5 y6 y7 y8 y9 y10 y11 y12 y13, fr' = [y0, y1, .int .i64 (cmpE (s.drop i) (t.drop i)), y3, y4, y5, y6, y7, y8, y9, y10, y11, y12, y13]) ∨
        (e = .exit 0 ∧ cmpE (s.drop i) (t.drop i) = 0 ∧ ∃ y2 y3 y4 y5 y6 y7 y8 y9 y10 y11 y12 y13, fr' = [.vs (ints s), .vs (ints t), y2, y3, y4, y5, y6, y7, y8, y9, y10, y11, y12, y13])) := by
    intro m
    induction m with
    | zero =>
      intro i hm hi x4 x5 x6 x7 x8 x12 x19 x28 x35
      have : i = s.length := by omega
      subst this
      apply LoopQ.exit K (canon_free (by simp))
      case h => intro k hk; simp [-Option.bind_some, c26_7_run, c26_8_run, c26_9_run, c26_10_run, c26_11_run, c26_12_run, c26_13_run, seqX, blockX, -Option.some.injEq]; rfl
      · simp
      · exact ⟨rfl, .inr ⟨rfl, by simp [cmpE], _, _, _, _, _, _, _, _, _, _, _, _, rfl⟩⟩
    | succ m ih =>
      intro i hm hi x4 x5 x6 x7 x8 x12 x19 x28 x35
      have hil : i < s.length := by omega
      have hil2 : i < t.length := by omega
      have hy : (ints s)[i]? = some (.int .i64 (s.getD i 0)) := by rw [ints_get]; simp [hil]
      have hz : (ints t)[i]? = some (.int .i64 (t.getD i 0)) := by rw [ints_get]; simp [hil2]
      have hds : s.drop i = s.getD i 0 :: s.drop (i + 1) := by rw [List.drop_eq_getElem_cons hil]; simp [hil]
      have hdt : t.drop i = t.getD i 0 :: t.drop (i + 1) := by rw [List.drop_eq_getElem_cons hil2]; simp [hil2]
      obtain ⟨i1, hi1⟩ : ∃ i1, i1 = i + 1 := ⟨_, rfl⟩
      have hw : IntKind.i64.wrap ((i : Int) + 1) = i1 := by rw [wrap_i64 (by omega) (by omega)]; omega
      have hE : cmpE (s.drop i) (t.drop i) = if cmpI (s.getD i 0) (t.getD i 0) = 0 then cmpE (s.drop i1) (t.drop i1) else cmpI (s.getD i 0) (t.getD i 0) := by rw [hds, hdt, hi1]; rfl
      have hKi := hK i hil
      have a1 : ∀ H, pIndexAddr Try.prog 22 (.vs (ints s)) (.int .i64 i) H = some (.ip [.int .i64 (s.getD i 0)] 0) := fun H => by rw [idx22_vs hy (by simp)]; simp
      have a2 : ∀ H, pIndexAddr Try.prog 22 (.vs (ints t)) (.int .i64 i) H = some (.ip [.int .i64 (t.getD i 0)] 0) := fun H => by rw [idx22_vs hz (by simp)]; simp
      have hlt : ¬ ((t.length : Int) ≤ i) := by omega
      rw [hE]
      generalize s.getD i 0 = a at a1 hKi hE ⊢
      generalize t.getD i 0 = b at a2 hKi hE ⊢
      by_cases hc : cmpI a b = 0
      · rw [hc] at hKi
        apply LoopQ.step K (canon_free (by simp))
        case h => intro k hk; simp [-Option.bind_some, c26_7_run, c26_8_run, c26_9_run, c26_10_run, c26_11_run, c26_12_run, c26_13_run, c26_14_run, c26_15_run, c26_16_run, c26_17_run, c26_18_run, c26_19_run, c26_20_run, c26_21_run, c26_22_run, c26_23_run, c26_24_run, c26_25_run, c26_26_run, c26_27_run, c26_28_run, c26_29_run, c26_30_run, c26_31_run, c26_32_run, c26_33_run, c26_34_run, c26_35_run, c26_36_run, seqX, blockX, hil, hlt, a1, a2, hKi k hk, pCall_free, hw, -Option.some.injEq]; rfl
        rw [if_pos hc]
        exact ih i1 (by omega) (by omega) _ _ _ _ _ _ _ _ _
      · apply LoopQ.exit K (canon_free (by simp))
        case h => intro k hk; simp [-Option.bind_some, c26_7_run, c26_8_run, c26_9_run, c26_10_run, c26_11_run, c26_12_run, c26_13_run, c26_14_run, c26_15_run, c26_16_run, c26_17_run, c26_18_run, c26_19_run, c26_20_run, c26_21_run, c26_22_run, c26_23_run, c26_24_run, c26_25_run, c26_26_run, c26_27_run, c26_28_run, c26_29_run, c26_30_run, c26_31_run, c26_32_run, c26_33_run, c26_34_run, c26_35_run, c26_36_run, seqX, blockX, hil, hlt, a1, a2, hKi k hk, pCall_free, hw, hc, -Option.some.injEq]; rfl
        · simp
        · rw [if_neg hc]
          exact ⟨rfl, .inl ⟨rfl, _, _, _, _, _, _, _, _, _, _, _, _, _, rfl⟩⟩
  obtain ⟨e, fr', H', ⟨K2, hl2⟩, rfl, hQ⟩ := hloop s.length 0 (by omega) (by omega) (.int .i64 0) .undef .undef .undef .undef .undef .undef .undef .undef
  refine .of (max K K2) fun k hk => ?_
  rw [f26_eq (hh _ _ _ (by decide))]
  have hlk := hl2 k (by omega) k (by omega)
  simp only [bodyOf, Int.natCast_zero] at hlk
  have hle : ¬ ((s.length : Int) < t.length) := by omega
  rcases hQ with ⟨rfl, y0, y1, y3, y4, y5, y6, y7, y8, y9, y10, y11, y12, y13, rfl⟩ | ⟨rfl, hm1, y2, y3, y4, y5, y6, y7, y8, y9, y10, y11, y12, y13, rfl⟩
  · simp [-Option.bind_some, f26_fin_normal, f26_fin_ret, c26_0_run, c26_1_run, c26_2_run, c26_3_run, c26_4_run, c26_5_run, c26_6_run, seqX, blockX, hlk, aret_free]
  · rw [List.drop_zero, List.drop_zero] at hm1
    simp [-Option.bind_some, f26_fin_normal, f26_fin_ret, c26_0_run, c26_1_run, c26_2_run, c26_3_run, c26_4_run, c26_5_run, c26_6_run, c26_7_run, c26_8_run, c26_9_run, c26_10_run, c26_11_run, c26_12_run, c26_13_run, c26_14_run, c26_15_run, c26_16_run, c26_17_run, c26_18_run, c26_19_run, c26_20_run, c26_21_run, c26_22_run, c26_23_run, c26_24_run, c26_25_run, c26_26_run, c26_27_run, c26_28_run, c26_29_run, c26_30_run, c26_31_run, c26_32_run, c26_33_run, c26_34_run, c26_35_run, c26_36_run, c26_37_run, c26_38_run, c26_39_run, c26_40_run, c26_41_run, c26_42_run, c26_43_run, c26_44_run, c26_45_run, c26_46_run, c26_47_run, seqX, blockX, hlk, aret_free, hm1, hle]
end Go.Proofs.Ytbkifahfbcalaaa
namespace Go.Am
theorem canon_none {H : Heap} {keep : List Bool} {fr : List AV} (hf : AV.refFreeL (mask fr keep) = true) (ho : H.outer = []) : canon true 0 keep fr H = (mask fr keep, ⟨0, [], []⟩) := by
  have hreach : reached H (mask fr keep) = [] := by
    unfold reached touched
    rw [refsL_free _ hf, reach_nil]
    rfl
  rw [canon_of (bl := []) hreach rfl rfl rfl ho (AV.renL_free _ _ hf)]
  rfl
end Go.Am
namespace Go.Proofs.Ytbkifahfbcalaaa
open Go.Am Go.Stk
variable {h : CallFn}

def bytes (l : List Int) : List AV := l.map (AV.int .u8)
@[simp] theorem bytes_length {l : List Int} : (bytes l).length = l.length := by simp [bytes]
theorem conv5_3 {c : Int} : pConv Try.prog 5 3 (.int .u8 c) = some (.int .i64 (IntKind.i64.wrap c)) := by kernel_rfl
/-- layers that the law makes -/
structure Lay (s : List Int) (t : Nat) : Prop where
  su : sum s = t
  le : t ≤ 200
  el : ∀ k ∈ s, 1 ≤ k ∧ k ≤ 30
theorem Lay.nil : Lay [] 0 := ⟨rfl, by omega, by simp⟩
theorem Lay.len {s : List Int} {t : Nat} (h : Lay s t) : s.length ≤ t := by
  have := sum_nonneg (ks := s) fun k hk => (h.el k hk).1
  have := h.su
  omega
theorem Lay.add {s : List Int} {t t' : Nat} {k : Int} (h : Lay s t) (hk : 1 ≤ k ∧ k ≤ 30) (ht : (t' : Int) = t + k) (h2 : t' ≤ 200) : Lay (s ++ [k]) t' := by
  refine ⟨?_, h2, ?_⟩
  · have := h.su
    simp only [sum_append, sum]; omega
  · intro q hq
    rcases List.mem_append.1 hq with hq | hq
    · exact h.el q hq
    · simp at hq; subst hq; exact hk

def gKeep : List Bool := [false, true, true, false, true, true, false, false, false, false, false, false, false, false, false, false, false, false, true, true, true, false, false, false, false, false, false, false, false, false, false]
def gFr (X row a b : AV) (t n i : Nat) (x0 x6 x10 x11 x26 x36 : AV) : List AV := [x0, a, b, x6, row, .int .i64 t, x10, x11, .undef, .undef, .undef, .undef, .undef, .undef, .undef, .undef, .undef, .undef, X, .int .i64 n, .int .i64 i, x26, x36, .undef, .undef, .undef, .undef, .undef, .undef, .undef, .undef]
section body
variable {X : AV} {a b : Int} {t t1 n i i1 : Nat} {c k : Int} {HM H2 : Heap}
theorem gbody_end (f : Nat) (c1 : ¬ (i : Int) < n) : bodyOf h an6 c6_11 f (gFr X (.hs 0 0) (.int .u8 a) (.int .u8 b) t n i .undef .undef .undef .undef .undef .undef) HM = some (.exit 0, gFr X (.hs 0 0) (.int .u8 a) (.int .u8 b) t n i .undef .undef .undef .undef (.bool false) .undef, HM) := by
  simp [-Option.bind_some, gFr, c6_11_run, c6_12_run, c6_13_run, c6_14_run, c6_15_run, c6_16_run, c6_17_run, seqX, c1, -Option.some.injEq]
theorem gbody_skip (f : Nat) (c1 : (i : Int) < n) (a1 : pIndexAddr Try.prog 25 X (.int .i64 i) HM = some (.ip [.int .u8 c] 0)) (w0 : IntKind.i64.wrap c = c) (w1 : IntKind.i64.wrap (1 + c.tmod 30) = k) (w2 : IntKind.i64.wrap ((t : Int) + k) = t + k) (w3 : IntKind.i64.wrap ((i : Int) + 1) = i1) (c2 : ¬ (t : Int) + k ≤ 200) :
    bodyOf h an6 c6_11 f (gFr X (.hs 0 0) (.int .u8 a) (.int .u8 b) t n i .undef .undef .undef .undef .undef .undef) HM = some (.normal, gFr X (.hs 0 0) (.int .u8 a) (.int .u8 b) t n i1 .undef .undef (.int .u8 c) (.int .i64 k) (.bool true) (.bool false), HM) := by
  simp [-Option.bind_some, gFr, c6_11_run, c6_12_run, c6_13_run, c6_14_run, c6_15_run, c6_16_run, c6_17_run, c6_18_run, c6_19_run, c6_20_run, c6_21_run, c6_22_run, c6_23_run, c6_24_run, c6_25_run, c6_26_run, c6_27_run, c6_28_run, c6_29_run, c6_30_run, seqX, blockX, c1, a1, conv5_3, w0, w1, w2, w3, c2, -Option.some.injEq]
theorem gbody_add (f : Nat) (c1 : (i : Int) < n) (a1 : pIndexAddr Try.prog 25 X (.int .i64 i) HM = some (.ip [.int .u8 c] 0)) (w0 : IntKind.i64.wrap c = c) (w1 : IntKind.i64.wrap (1 + c.tmod 30) = k) (w2 : IntKind.i64.wrap ((t : Int) + k) = t1) (w3 : IntKind.i64.wrap ((i : Int) + 1) = i1) (c2 : (t1 : Int) ≤ 200)
    (a2 : pAppend Try.prog 22 22 (.hs 0 0) (.vs [.int .i64 k]) HM.next HM = some (.hs 0 1, H2)) :
    bodyOf h an6 c6_11 f (gFr X (.hs 0 0) (.int .u8 a) (.int .u8 b) t n i .undef .undef .undef .undef .undef .undef) HM = some (.normal, gFr X (.hs 0 1) (.int .u8 a) (.int .u8 b) t1 n i1 .undef .undef (.int .u8 c) (.int .i64 k) (.bool true) (.bool true), H2) := by
  have hrow : pRow 0 1 [.int .i64 k] HM.next HM = (.vs [.int .i64 k], HM) := by simp [pRow, AV.okElem]
  simp [-Option.bind_some, gFr, c6_11_run, c6_12_run, c6_13_run, c6_14_run, c6_15_run, c6_16_run, c6_17_run, c6_18_run, c6_19_run, c6_20_run, c6_21_run, c6_22_run, c6_23_run, c6_24_run, c6_25_run, c6_26_run, c6_27_run, c6_28_run, c6_29_run, c6_30_run, seqX, blockX, c1, a1, conv5_3, w0, w1, w2, w3, c2, lit22, hrow, a2, -Option.some.injEq]
end body
theorem gloop {l : List Int} {X : AV} (hX : IsRow X (bytes l)) (hl : ∀ c ∈ l, 0 ≤ c ∧ c ≤ 255) (hll : l.length < 9223372036854775808) {a b : Int} :
    ∀ (d i : Nat), l.length - i = d → i ≤ l.length → ∀ (s : List Int) (t : Nat), Lay s t → ∀ (B g : Nat) (x0 x6 x10 x11 x26 x36 : AV) (H : Heap), H.get B = some (.sl g 1 true (ints s)) → H.outer = [] →
      LoopQ (bodyOf h an6 c6_11) gKeep (gFr X (.hs B g) (.int .u8 a) (.int .u8 b) t l.length i x0 x6 x10 x11 x26 x36) H
        fun ex fr' H' => ex = .exit 0 ∧ H'.outer = [] ∧ ∃ (s' : List Int) (t' : Nat), Lay s' t' ∧ H'.get 0 = some (.sl 0 1 true (ints s')) ∧ fr' = gFr X (.hs 0 0) (.int .u8 a) (.int .u8 b) t' l.length l.length .undef .undef .undef .undef (.bool false) .undef := by
  have hXr : X.refs = [] := refs_free _ hX.free
  have hXn : ∀ f, X.ren f = X := fun f => AV.ren_free f _ hX.free
  have hcanon : ∀ (s : List Int) (t i B g : Nat) (x0 x6 x10 x11 x26 x36 : AV) (H : Heap), H.get B = some (.sl g 1 true (ints s)) → H.outer = [] →
      canon true 0 gKeep (gFr X (.hs B g) (.int .u8 a) (.int .u8 b) t l.length i x0 x6 x10 x11 x26 x36) H = (gFr X (.hs 0 0) (.int .u8 a) (.int .u8 b) t l.length i .undef .undef .undef .undef .undef .undef, ⟨1, [(0, .sl 0 1 true (ints s))], []⟩) := by
    intro s t i B g x0 x6 x10 x11 x26 x36 H h0 ho
    exact rcanon h0 ho (by simp [gFr, gKeep, AV.refsL, AV.refs, hXr]) (fun f f0 => by simp [gFr, gKeep, AV.renL, AV.ren, f0, hXn])
  intro d
  induction d with
  | zero =>
    intro i hd hi s t hs B g x0 x6 x10 x11 x26 x36 H h0 ho
    have hi' : i = l.length := by omega
    subst hi'
    exact LoopQ.exit 0 (hcanon _ _ _ _ _ _ _ _ _ _ _ _ h0 ho) (fun f _ => gbody_end f (by omega)) (by simp) ⟨rfl, rfl, s, t, hs, rfl, rfl⟩
  | succ d ih =>
    intro i hd hi s t hs B g x0 x6 x10 x11 x26 x36 H h0 ho
    have hil : i < l.length := by omega
    obtain ⟨c, hc⟩ : ∃ c, l[i]? = some c := ⟨_, List.getElem?_eq_getElem hil⟩
    have hcb := hl c (List.mem_of_getElem? hc)
    have hXv := hX.vs (by
      intro e
      have h0 : (bytes l).length = 0 := by rw [e]; rfl
      rw [bytes_length] at h0; omega)
    have hce : (bytes l)[i]? = some (.int .u8 c) := by simp [bytes, hc]
    have a1 : ∀ H, pIndexAddr Try.prog 25 X (.int .i64 i) H = some (.ip [.int .u8 c] 0) := fun H => by rw [hXv, idx25_vs hce (by simp)]; simp
    have htm : c.tmod 30 = c % 30 := Int.tmod_eq_emod_of_nonneg hcb.1
    obtain ⟨k, hk⟩ : ∃ k, k = 1 + c % 30 := ⟨_, rfl⟩
    have hkb : 1 ≤ k ∧ k ≤ 30 := by omega
    have ht := hs.le
    have w0 : IntKind.i64.wrap c = c := wrap_i64 (by omega) (by omega)
    have w1 : IntKind.i64.wrap (1 + c.tmod 30) = k := by rw [htm, wrap_i64 (by omega) (by omega), hk]
    have w2 : IntKind.i64.wrap ((t : Int) + k) = t + k := wrap_i64 (by omega) (by omega)
    have w3 : IntKind.i64.wrap ((i : Int) + 1) = ((i + 1 : Nat) : Int) := by rw [wrap_i64 (by omega) (by omega)]; omega
    by_cases c2 : (t : Int) + k ≤ 200
    · obtain ⟨t1, ht1⟩ : ∃ t1 : Nat, (t1 : Int) = t + k := ⟨(t + k).toNat, by omega⟩
      have hlen := hs.len
      have a2 := ap_hs (H := ⟨1, [(0, .sl 0 1 true (ints s))], []⟩) (nid := 1) (x := .vs [.int .i64 k]) ap22_22 rowOf_vs (by simp [okSrc]) (by rfl : Heap.get _ 0 = some (.sl 0 1 true (ints s))) (by simp) (by simp; omega)
      have hint : ints s ++ [.int .i64 k] = ints (s ++ [k]) := by simp [ints]
      rw [hint] at a2
      exact LoopQ.step 0 (hcanon _ _ _ _ _ _ _ _ _ _ _ _ h0 ho) (fun f _ => gbody_add f (by omega) (a1 _) w0 w1 (by rw [w2, ht1]) w3 (by omega) a2) (ih (i + 1) (by omega) (by omega) (s ++ [k]) t1 (hs.add hkb ht1 (by omega)) 0 1 _ _ _ _ _ _ _ (by rw [get_put, if_pos rfl]; simp) rfl)
    · exact LoopQ.step 0 (hcanon _ _ _ _ _ _ _ _ _ _ _ _ h0 ho) (fun f _ => gbody_skip f (by omega) (a1 _) w0 w1 w2 w3 c2) (ih (i + 1) (by omega) (by omega) s t hs 0 0 _ _ _ _ _ _ _ rfl rfl)
end Go.Proofs.Ytbkifahfbcalaaa
namespace Go.Proofs.Ytbkifahfbcalaaa
open Go.Am Go.Stk
variable {h : CallFn}

def hKeep : List Bool := [false, false, false, false, true, true, false, false, true, true, true, false, true, false, true, false, false, false, false, false, false, false, false, false, false, false, true, true, true, false, false]
def hFr (S T : AV) (t L E : Int) (ok : Bool) (acc : Int) (n i : Nat) (x0 x1 x2 x6 x10 x11 x15 x17 x20 x21 x22 x23 x24 x25 x26 x36 x46 x73 x75 x97 x121 : AV) : List AV := [x0, x1, x2, x6, S, .int .i64 t, x10, x11, .int .i64 L, .int .i64 E, .bool ok, x15, T, x17, .int .i64 acc, x20, x21, x22, x23, x24, x25, x26, x36, x46, x73, x75, T, .int .i64 n, .int .i64 i, x97, x121]
section body
variable {S T : AV} {t L E acc acc1 c : Int} {ok : Bool} {n i i1 : Nat} {HM : Heap}
theorem hbody_end (f : Nat) (c1 : ¬ (i : Int) < n) : bodyOf h an6 c6_70 f (hFr S T t L E ok acc n i .undef .undef .undef .undef .undef .undef .undef .undef .undef .undef .undef .undef .undef .undef .undef .undef .undef .undef .undef .undef .undef) HM =
    some (.exit 2, hFr S T t L E ok acc n i .undef .undef .undef .undef .undef .undef .undef .undef .undef .undef .undef .undef .undef .undef .undef .undef .undef .undef .undef (.bool false) .undef, HM) := by
  simp [-Option.bind_some, hFr, c6_70_run, c6_71_run, c6_72_run, c6_73_run, c6_74_run, c6_75_run, c6_76_run, seqX, c1, -Option.some.injEq]
theorem hbody_step (f : Nat) (c1 : (i : Int) < n) (a1 : pIndexAddr Try.prog 22 T (.int .i64 i) HM = some (.ip [.int .i64 c] 0)) (w1 : IntKind.i64.wrap (acc + c) = acc1) (w2 : IntKind.i64.wrap ((i : Int) + 1) = i1) :
    bodyOf h an6 c6_70 f (hFr S T t L E ok acc n i .undef .undef .undef .undef .undef .undef .undef .undef .undef .undef .undef .undef .undef .undef .undef .undef .undef .undef .undef .undef .undef) HM =
    some (.normal, hFr S T t L E ok acc1 n i1 .undef .undef .undef .undef .undef .undef .undef .undef (.int .i64 c) .undef .undef .undef .undef .undef .undef .undef .undef .undef .undef (.bool true) .undef, HM) := by
  simp [-Option.bind_some, hFr, c6_70_run, c6_71_run, c6_72_run, c6_73_run, c6_74_run, c6_75_run, c6_76_run, c6_77_run, c6_78_run, c6_79_run, c6_80_run, c6_81_run, seqX, blockX, c1, a1, w1, w2, -Option.some.injEq]
end body
theorem sum_take {l : List Int} (h : ∀ k ∈ l, 1 ≤ k) (i : Nat) : 0 ≤ sum (l.take i) ∧ sum (l.take i) ≤ sum l := by
  have h1 := sum_nonneg (ks := l.take i) fun k hk => h k (List.mem_of_mem_take hk)
  have h2 := sum_nonneg (ks := l.drop i) fun k hk => h k (List.mem_of_mem_drop hk)
  have h3 : sum l = sum (l.take i) + sum (l.drop i) := by rw [← sum_append, List.take_append_drop]
  omega
theorem sum_take_succ {l : List Int} {i : Nat} {c : Int} (h : l[i]? = some c) : sum (l.take (i + 1)) = sum (l.take i) + c := by
  rw [List.take_add_one, h, sum_append]
  simp [sum]
theorem hloop {T : List Int} {S : AV} (hS : S.refFree = true) (hp : ∀ k ∈ T, 1 ≤ k) (hs : sum T ≤ 200) {t L E : Int} {ok : Bool} :
    ∀ (d i : Nat), T.length - i = d → i ≤ T.length → ∀ (x0 x1 x2 x6 x10 x11 x15 x17 x20 x21 x22 x23 x24 x25 x26 x36 x46 x73 x75 x97 x121 : AV) (H : Heap), H.outer = [] →
      LoopQ (bodyOf h an6 c6_70) hKeep (hFr S (.vs (ints T)) t L E ok (sum (T.take i)) T.length i x0 x1 x2 x6 x10 x11 x15 x17 x20 x21 x22 x23 x24 x25 x26 x36 x46 x73 x75 x97 x121) H
        fun ex fr' H' => ex = .exit 2 ∧ H' = ⟨0, [], []⟩ ∧ fr' = hFr S (.vs (ints T)) t L E ok (sum T) T.length T.length .undef .undef .undef .undef .undef .undef .undef .undef .undef .undef .undef .undef .undef .undef .undef .undef .undef .undef .undef (.bool false) .undef := by
  have hcanon : ∀ (acc : Int) (i : Nat) (x0 x1 x2 x6 x10 x11 x15 x17 x20 x21 x22 x23 x24 x25 x26 x36 x46 x73 x75 x97 x121 : AV) (H : Heap), H.outer = [] →
      canon true 0 hKeep (hFr S (.vs (ints T)) t L E ok acc T.length i x0 x1 x2 x6 x10 x11 x15 x17 x20 x21 x22 x23 x24 x25 x26 x36 x46 x73 x75 x97 x121) H =
        (hFr S (.vs (ints T)) t L E ok acc T.length i .undef .undef .undef .undef .undef .undef .undef .undef .undef .undef .undef .undef .undef .undef .undef .undef .undef .undef .undef .undef .undef, ⟨0, [], []⟩) := by
    intro acc i x0 x1 x2 x6 x10 x11 x15 x17 x20 x21 x22 x23 x24 x25 x26 x36 x46 x73 x75 x97 x121 H ho
    rw [canon_none (by simp [hFr, hKeep, hS]) ho]
    simp [hFr, hKeep]
  intro d
  induction d with
  | zero =>
    intro i hd hi x0 x1 x2 x6 x10 x11 x15 x17 x20 x21 x22 x23 x24 x25 x26 x36 x46 x73 x75 x97 x121 H ho
    have hi' : i = T.length := by omega
    subst hi'
    rw [List.take_length]
    exact LoopQ.exit 0 (hcanon _ _ _ _ _ _ _ _ _ _ _ _ _ _ _ _ _ _ _ _ _ _ _ _ ho) (fun f _ => hbody_end f (by omega)) (by simp) ⟨rfl, rfl, rfl⟩
  | succ d ih =>
    intro i hd hi x0 x1 x2 x6 x10 x11 x15 x17 x20 x21 x22 x23 x24 x25 x26 x36 x46 x73 x75 x97 x121 H ho
    have hil : i < T.length := by omega
    obtain ⟨c, hc⟩ : ∃ c, T[i]? = some c := ⟨_, List.getElem?_eq_getElem hil⟩
    have hce : (ints T)[i]? = some (.int .i64 c) := by simp [ints_get, hc]
    have a1 : ∀ H, pIndexAddr Try.prog 22 (.vs (ints T)) (.int .i64 i) H = some (.ip [.int .i64 c] 0) := fun H => by rw [idx22_vs hce (by simp)]; simp
    have h1 := sum_take hp (i + 1)
    have hlen := sum_nonneg hp
    have w1 : IntKind.i64.wrap (sum (T.take i) + c) = sum (T.take (i + 1)) := by rw [← sum_take_succ hc, wrap_i64 (by omega) (by omega)]
    have w2 : IntKind.i64.wrap ((i : Int) + 1) = ((i + 1 : Nat) : Int) := by rw [wrap_i64 (by omega) (by omega)]; omega
    exact LoopQ.step 0 (hcanon _ _ _ _ _ _ _ _ _ _ _ _ _ _ _ _ _ _ _ _ _ _ _ _ ho) (fun f _ => hbody_step f (by omega) (a1 _) w1 w2) (ih (i + 1) (by omega) (by omega) _ _ _ _ _ _ _ _ _ _ _ _ _ _ _ _ _ _ _ _ _ _ rfl)
end Go.Proofs.Ytbkifahfbcalaaa
namespace Go.Proofs.Ytbkifahfbcalaaa
open Go.Am Go.Stk
variable {h : CallFn}

theorem le_sum : ∀ {l : List Int}, (∀ k ∈ l, 1 ≤ k) → ∀ k ∈ l, k ≤ sum l
  | [], _, k, hk => by simp at hk
  | x :: r, h, k, hk => by
    have h1 := h x (by simp)
    have h2 := sum_nonneg (ks := r) fun q hq => h q (by simp [hq])
    simp only [sum]
    rcases List.mem_cons.1 hk with rfl | hk
    · omega
    · have := le_sum (l := r) (fun q hq => h q (by simp [hq])) k hk
      omega
theorem straightF_ok {l : List Int} {L E : Int} (h1 : l.length ≤ 200) (hne : l ≠ []) (hL : 0 ≤ L) (hE : 0 ≤ E) (hk : ∀ k ∈ l, 1 ≤ k ∧ k ≤ 200) : straightF l L E = (okS L E l 0 0, 0) := by
  have hb : ¬ (l = [] ∨ L < 0 ∨ E < 0 ∨ (l.any fun n => !(decide (1 ≤ n) && decide (n ≤ 200))) = true) := by
    rintro (h | h | h | h)
    · exact hne h
    · omega
    · omega
    · rw [List.any_eq_true] at h
      obtain ⟨k, hk1, hk2⟩ := h
      have := hk k hk1
      simp [this] at hk2
  simp only [straightF, if_neg (show ¬ 200 < l.length by omega), if_neg hb]
theorem pre15 (x0 x1 x2 x6 x7 x8 x10 x11 x12 x13 x14 x15 x16 x17 x18 x20 x21 x22 x23 x24 x25 x26 x36 x46 x73 x75 x94 x95 x96 x97 x121 : AV) (H : Heap) : frzSlots 0 an6.pos [7] [x0, x1, x2, x6, x7, x8, x10, x11, x12, x13, x14, x15, x16, x17, x18, x20, x21, x22, x23, x24, x25, x26, x36, x46, x73, x75, x94, x95, x96, x97, x121] H =
    ([x0, x1, x2, x6, (pFrz 0 x7 H).1, x8, x10, x11, x12, x13, x14, x15, x16, x17, x18, x20, x21, x22, x23, x24, x25, x26, x36, x46, x73, x75, x94, x95, x96, x97, x121], (pFrz 0 x7 H).2) := by kernel_rfl
theorem frz_vs {es : List AV} {H : Heap} : pFrz 0 (.vs es) H = (.vs es, H) := by simp [pFrz]
theorem drop_outer {H : Heap} {Z : List Nat} : (H.drop Z).outer = H.outer := rfl
/-- how many layers -/
theorem few_least {n L e : Int} {r m : Nat} {s : List Int} (hL : 1 ≤ L) (hs : Fit n L e r 0 0 0 s) (hn : 1 ≤ n) (hm : LeastM n L e m) : m + 1 ≤ r := by
  obtain ⟨f1, f2, f3⟩ := few hs hn
  rcases hm.2 with h | h
  · omega
  · by_cases hc : m + 1 ≤ r
    · exact hc
    · have hle : ((r - 1 : Nat) : Int) ≤ ((m - 1 : Nat) : Int) := by omega
      have := Int.mul_le_mul_of_nonneg_left hle (show 0 ≤ 2 * L by omega)
      omega
theorem turned_con (hh : Hk h) (hA : h 10 [] [] = some (.bool true, [])) {l : List Int} {X : AV} (hX : IsRow X (bytes l)) (hl : ∀ c ∈ l, 0 ≤ c ∧ c ≤ 255) (hll : l.length < 9223372036854775808) {a b : Int} (ha : 0 ≤ a ∧ a ≤ 255) (hb : 0 ≤ b ∧ b ≤ 255) :
    Con h 6 [X, .int .u8 a, .int .u8 b] (.bool true) := by
  have hAk : ∀ k, acall Try.prog annOf h k 10 [] [] = some (.bool true, []) := fun k => acall_hook hA
  have hAc : ∀ k H n, pCall (acall Try.prog annOf h k) 0 10 [] H n = some (.bool true, H, [], []) := fun k H n => pCall_con (hAk k) rfl rfl rfl
  have hXf := hX.free
  have hXr := hX.notRow
  have hXl := len25_row (H := (⟨0, [], []⟩ : Heap).put 0 (.sl 0 1 true [])) hX.of
  rw [bytes_length] at hXl
  obtain ⟨ex, fr', H', ⟨K1, hl1⟩, rfl, ho, s, t, hs, g0, rfl⟩ := gloop (h := h) hX hl hll (a := a) (b := b) l.length 0 (by omega) (by omega) [] 0 Lay.nil 0 0 X (.bool false) .undef .undef .undef .undef ((⟨0, [], []⟩ : Heap).put 0 (.sl 0 1 true [])) (by rw [get_put, if_pos rfl]; rfl) rfl
  have htl := hs.le
  by_cases ht : t = 0
  · subst ht
    refine .of K1 fun k hk => ?_
    have hlk := hl1 k hk k hk
    simp only [gFr, gKeep, Int.natCast_zero] at hlk
    rw [f6_eq (hh _ _ _ (by decide))]
    simp [-Option.bind_some, f6_fin_normal, f6_fin_ret, c6_0_run, c6_1_run, c6_2_run, c6_3_run, c6_4_run, c6_5_run, c6_6_run, c6_7_run, c6_8_run, c6_9_run, c6_10_run, c6_31_run, c6_32_run, c6_33_run, c6_34_run, c6_35_run, c6_36_run, c6_37_run, c6_38_run, seqX, blockX, acc22, hXl, hlk, hAc, pCall_free, aret_free, ho, -Option.some.injEq]
  have wa : IntKind.i64.wrap a = a := wrap_i64 (by omega) (by omega)
  have wb : IntKind.i64.wrap b = b := wrap_i64 (by omega) (by omega)
  have hra : a.tmod t = a % t := Int.tmod_eq_emod_of_nonneg ha.1
  have h1 := Int.emod_nonneg a (show (t : Int) ≠ 0 by omega)
  have h2 := Int.emod_lt_of_pos a (show 0 < (t : Int) by omega)
  obtain ⟨L, hL⟩ : ∃ L, L = 1 + a % t := ⟨_, rfl⟩
  have hLb : 1 ≤ L ∧ L ≤ t := by omega
  have wL : IntKind.i64.wrap (1 + a.tmod t) = L := by rw [hra, ← hL, wrap_i64 (by omega) (by omega)]
  have hrb : b.tmod (L + 1) = b % (L + 1) := Int.tmod_eq_emod_of_nonneg hb.1
  have h3 := Int.emod_nonneg b (show L + 1 ≠ 0 by omega)
  have h4 := Int.emod_lt_of_pos b (show 0 < L + 1 by omega)
  obtain ⟨E, hE⟩ : ∃ E, E = b % (L + 1) := ⟨_, rfl⟩
  have hEb : 0 ≤ E ∧ E ≤ L := by omega
  have wL1 : IntKind.i64.wrap (L + 1) = L + 1 := wrap_i64 (by omega) (by omega)
  have wE : b.tmod (L + 1) = E := by rw [hrb, hE]
  have hL10 : ¬ L + 1 = 0 := by omega
  have hsne : s ≠ [] := by
    rintro rfl
    have := hs.su
    simp only [sum] at this
    omega
  have hslen := hs.len
  have hst := straightF_ok (L := L) (E := E) (show s.length ≤ 200 by omega) hsne (by omega) hEb.1 fun k hk => by have := hs.el k hk; omega
  obtain ⟨K2, h24⟩ := straight_con hh (l := s) (x := .vs (ints s)) (.inl rfl) (lim := L) (e := E) (by omega) (by omega) (by omega) (by omega) (by omega)
  rw [hst] at h24
  have hfz := frz_row g0
  obtain ⟨t1, t2⟩ := turns_con hh (n := t) (L := L) (e := E) (by omega) (by omega) hEb
  have hfitS : okS L E s 0 0 = true → Fit t L E s.length 0 0 0 s := fun hok => ⟨rfl, fun k hk => (hs.el k hk).1, by have := hs.su; omega, hok⟩
  generalize hok : okS L E s 0 0 = ok at h24 hfitS
  by_cases hend : endF t E < 0
  · obtain ⟨K3, h25⟩ := t1 hend
    have hokf : ok = false := by
      cases ok with
      | false => rfl
      | true => have := (few (hfitS rfl) (by omega)).1; omega
    subst hokf
    have hpar : (t : Int).tmod 2 = 1 ∧ E = 0 := by
      rw [Int.tmod_eq_emod_of_nonneg (by omega)]
      unfold endF at hend
      split at hend <;> omega
    obtain ⟨hp1, rfl⟩ := hpar
    refine .of (max K1 (max K2 K3)) fun k hk => ?_
    have hlk := hl1 k (by omega) k (by omega)
    have e24 := h24 k (by omega)
    have e25 := h25 k (by omega)
    simp only [gFr, gKeep, Int.natCast_zero] at hlk
    rw [f6_eq (hh _ _ _ (by decide))]
    simp [-Option.bind_some, f6_fin_normal, f6_fin_ret, c6_0_run, c6_1_run, c6_2_run, c6_3_run, c6_4_run, c6_5_run, c6_6_run, c6_7_run, c6_8_run, c6_9_run, c6_10_run, c6_31_run, c6_32_run, c6_33_run, c6_34_run, c6_35_run, c6_36_run, c6_37_run, c6_38_run, c6_39_run, c6_40_run, c6_41_run, c6_42_run, c6_43_run, c6_44_chain, c6_44_k1, c6_44_run, c6_45_run, c6_46_k1, c6_46_run, c6_47_run, c6_48_run, c6_49_run, c6_50_run, c6_51_run, c6_52_run, c6_53_run, c6_54_run, c6_55_run, c6_56_run, c6_57_run, c6_58_run, c6_59_run, c6_60_k1, c6_60_k2, c6_60_k3, c6_60_run, c6_61_run, c6_62_run, seqX, blockX, acc22, hXl, hlk, hAc, pCall_free, aret_free, ho, ht, conv5_3, wa, wb, wL, wL1, wE, hL10, pre15, hfz, e24, e25, hp1, drop_outer, -Option.some.injEq]
  · obtain ⟨m, T, hm1, hm2, hT, hTne, K3, h25⟩ := t2 (by omega)
    obtain ⟨ks, hks⟩ := exists_fit hLb.1 (show (1 : Int) ≤ t by omega) hEb.2 (by omega) hm2.1 hm2.2
    obtain ⟨hfT, hlT⟩ := hT.least ((fits_iff _ _ _ _).2 ⟨ks, hks⟩)
    have hTs : sum T = t := by have := hfT.all; omega
    have hTlen := sum_nonneg hfT.pos
    have hTm := hfT.len
    have hstT := straightF_ok (L := L) (E := E) (show T.length ≤ 200 by omega) hTne (by omega) hEb.1 fun k hk => by have := le_sum hfT.pos k hk; have := hfT.pos k hk; omega
    obtain ⟨K4, h24T⟩ := straight_con hh (l := T) (x := .vs (ints T)) (.inl rfl) (lim := L) (e := E) (by omega) (by omega) (by omega) (by omega) (by omega)
    rw [hstT, hfT.ok] at h24T
    obtain ⟨ex, fr', H2, ⟨K5, hl2⟩, rfl, rfl, rfl⟩ := hloop (h := h) (T := T) (S := .vs (ints s)) rfl hfT.pos (by omega) (t := t) (L := L) (E := E) (ok := ok) T.length 0 (by omega) (by omega) .undef (.int .u8 a) (.int .u8 b) .undef .undef .undef (.int .i64 0) (.int .i64 0) .undef .undef .undef X (.int .i64 l.length) (.int .i64 l.length) (.bool false) .undef (.bool false) (.bool false) (.bool false) .undef .undef (H'.drop [0]) ho
    rw [hTs] at hl2
    have hcase : ok = false ∨ (ok = true ∧ T.length < s.length) ∨ (ok = true ∧ T.length = s.length ∧ cmpE T s ≤ 0) := by
      cases ok with
      | false => exact .inl rfl
      | true =>
        have hfs := hfitS rfl
        have hle := few_least hLb.1 hfs (by omega) hm2
        by_cases hlt : T.length < s.length
        · exact .inr (.inl ⟨rfl, hlt⟩)
        · have heq : T.length = s.length := by omega
          have hms : m + 1 = s.length := by omega
          exact .inr (.inr ⟨rfl, heq, (cmpE_lle heq).2 (hlT s (by rw [hms]; exact hfs))⟩)
    have hTl : pLen Try.prog 22 (.vs (ints T)) (H'.drop [0]) = some (.int .i64 T.length) := by rw [len22_vs, ints_length]
    rcases hcase with rfl | ⟨rfl, hlt⟩ | ⟨rfl, heq, hcmp⟩
    · refine .of (max (max K1 K2) (max (max K3 K4) K5)) fun k hk => ?_
      have hlk := hl1 k (by omega) k (by omega)
      have hlk2 := hl2 k (by omega) k (by omega)
      have e24 := h24 k (by omega)
      have e25 := h25 k (by omega)
      have e24T := h24T k (by omega)
      simp only [gFr, gKeep, Int.natCast_zero] at hlk
      simp only [hFr, hKeep, Int.natCast_zero, List.take_zero, sum] at hlk2
      rw [f6_eq (hh _ _ _ (by decide))]
      simp [-Option.bind_some, f6_fin_normal, f6_fin_ret, c6_0_run, c6_1_run, c6_2_run, c6_3_run, c6_4_run, c6_5_run, c6_6_run, c6_7_run, c6_8_run, c6_9_run, c6_10_run, c6_31_run, c6_32_run, c6_33_run, c6_34_run, c6_35_run, c6_36_run, c6_37_run, c6_38_run, c6_39_run, c6_40_run, c6_41_run, c6_42_run, c6_43_run, c6_44_chain, c6_44_k1, c6_44_run, c6_45_run, c6_46_k1, c6_46_run, c6_47_run, c6_48_run, c6_49_run, c6_50_run, c6_51_run, c6_52_run, c6_53_run, c6_54_run, c6_55_run, c6_56_run, c6_57_run, c6_58_run, c6_59_run, c6_60_k1, c6_60_k2, c6_60_k3, c6_60_run, c6_61_run, c6_62_run, c6_63_run, c6_64_run, c6_65_run, c6_66_run, c6_67_run, c6_68_run, c6_69_run, c6_82_run, c6_83_k1, c6_83_run, c6_84_run, c6_85_run, c6_86_k1, c6_86_k2, c6_86_run, c6_87_run, c6_88_run, c6_89_run, c6_90_run, c6_91_run, c6_92_run, c6_93_chain, c6_93_k1, c6_93_k2, c6_93_k3, c6_93_k4, c6_93_k5, c6_93_run, c6_94_run, seqX, blockX, acc22, hXl, hlk, hlk2, hAc, pCall_free, aret_free, ho, ht, conv5_3, wa, wb, wL, wL1, wE, hL10, pre15, hfz, frz_vs, e24, e25, e24T, drop_outer, -Option.some.injEq]
    · have hlti : (T.length : Int) < s.length := by omega
      refine .of (max (max K1 K2) (max (max K3 K4) K5)) fun k hk => ?_
      have hlk := hl1 k (by omega) k (by omega)
      have hlk2 := hl2 k (by omega) k (by omega)
      have e24 := h24 k (by omega)
      have e25 := h25 k (by omega)
      have e24T := h24T k (by omega)
      simp only [gFr, gKeep, Int.natCast_zero] at hlk
      simp only [hFr, hKeep, Int.natCast_zero, List.take_zero, sum] at hlk2
      rw [f6_eq (hh _ _ _ (by decide))]
      simp [-Option.bind_some, f6_fin_normal, f6_fin_ret, c6_0_run, c6_1_run, c6_2_run, c6_3_run, c6_4_run, c6_5_run, c6_6_run, c6_7_run, c6_8_run, c6_9_run, c6_10_run, c6_31_run, c6_32_run, c6_33_run, c6_34_run, c6_35_run, c6_36_run, c6_37_run, c6_38_run, c6_39_run, c6_40_run, c6_41_run, c6_42_run, c6_43_run, c6_44_chain, c6_44_k1, c6_44_run, c6_45_run, c6_46_k1, c6_46_run, c6_47_run, c6_48_run, c6_49_run, c6_50_run, c6_51_run, c6_52_run, c6_53_run, c6_54_run, c6_55_run, c6_56_run, c6_57_run, c6_58_run, c6_59_run, c6_60_k1, c6_60_k2, c6_60_k3, c6_60_run, c6_61_run, c6_62_run, c6_63_run, c6_64_run, c6_65_run, c6_66_run, c6_67_run, c6_68_run, c6_69_run, c6_82_run, c6_83_k1, c6_83_run, c6_84_run, c6_85_run, c6_86_k1, c6_86_k2, c6_86_run, c6_87_run, c6_88_run, c6_89_run, c6_90_run, c6_91_run, c6_92_run, c6_93_chain, c6_93_k1, c6_93_k2, c6_93_k3, c6_93_k4, c6_93_k5, c6_93_run, c6_94_run, seqX, blockX, acc22, hXl, hlk, hlk2, hAc, pCall_free, aret_free, ho, ht, conv5_3, wa, wb, wL, wL1, wE, hL10, pre15, hfz, frz_vs, e24, e25, e24T, hlt, hlti, drop_outer, -Option.some.injEq]
    · obtain ⟨K6, h26⟩ := cmp26_con hh heq (by omega)
      have hnl : ¬ ((T.length : Int) < s.length) := by omega
      have heqi : (T.length : Int) = s.length := by omega
      refine .of (max (max K1 K2) (max (max K3 K4) (max K5 K6))) fun k hk => ?_
      have hlk := hl1 k (by omega) k (by omega)
      have hlk2 := hl2 k (by omega) k (by omega)
      have e24 := h24 k (by omega)
      have e25 := h25 k (by omega)
      have e24T := h24T k (by omega)
      have e26 := h26 k (by omega)
      simp only [gFr, gKeep, Int.natCast_zero] at hlk
      simp only [hFr, hKeep, Int.natCast_zero, List.take_zero, sum, heq] at hlk2
      rw [f6_eq (hh _ _ _ (by decide))]
      simp [-Option.bind_some, f6_fin_normal, f6_fin_ret, c6_0_run, c6_1_run, c6_2_run, c6_3_run, c6_4_run, c6_5_run, c6_6_run, c6_7_run, c6_8_run, c6_9_run, c6_10_run, c6_31_run, c6_32_run, c6_33_run, c6_34_run, c6_35_run, c6_36_run, c6_37_run, c6_38_run, c6_39_run, c6_40_run, c6_41_run, c6_42_run, c6_43_run, c6_44_chain, c6_44_k1, c6_44_run, c6_45_run, c6_46_k1, c6_46_run, c6_47_run, c6_48_run, c6_49_run, c6_50_run, c6_51_run, c6_52_run, c6_53_run, c6_54_run, c6_55_run, c6_56_run, c6_57_run, c6_58_run, c6_59_run, c6_60_k1, c6_60_k2, c6_60_k3, c6_60_run, c6_61_run, c6_62_run, c6_63_run, c6_64_run, c6_65_run, c6_66_run, c6_67_run, c6_68_run, c6_69_run, c6_82_run, c6_83_k1, c6_83_run, c6_84_run, c6_85_run, c6_86_k1, c6_86_k2, c6_86_run, c6_87_run, c6_88_run, c6_89_run, c6_90_run, c6_91_run, c6_92_run, c6_93_chain, c6_93_k1, c6_93_k2, c6_93_k3, c6_93_k4, c6_93_k5, c6_93_run, c6_94_run, seqX, blockX, acc22, hXl, hlk, hlk2, hAc, pCall_free, aret_free, ho, ht, conv5_3, wa, wb, wL, wL1, wE, hL10, pre15, hfz, frz_vs, e24, e25, e24T, e26, heq, hcmp, drop_outer, -Option.some.injEq]
end Go.Proofs.Ytbkifahfbcalaaa
