/-
  MAIL: contracts: can: the k-loop. Own work.
  MAIL: contracts: can: the x-loop. Own work.
  MAIL: contracts: can: the used-loop. Own work.
  MAIL: contracts: can: the used-loop, put together. Own work.
  MAIL: contracts: can: the used-loop. Own work.
  MAIL: contracts: can. Own work.
-/
import Derived.Test.YtbkifahfbcalaaaZg
set_option linter.unusedSimpArgs false
set_option linter.unusedVariables false
namespace Go.Proofs.Ytbkifahfbcalaaa
open Go.Am Go.Stk
variable {h : CallFn}

/-- a step that the kernel need not find by unfolding -/
@[simp] theorem bind_nr {A B : Type} (a : A) (f : A → Option B) : Option.bind (some a) f = f a := nr rfl

theorem bools_set {l : List Bool} {i : Nat} {v : Bool} : (bools l).set i (.bool v) = bools (l.set i v) := by
  simp [bools, List.map_set]
/-- once a layer leans too far, a thicker one does, too -/
theorem ln_far {L : Nat} {x : Int} {j k q : Nat} (hx : -(L : Int) ≤ x ∧ x ≤ L) (hk : ¬ (-(L : Int) ≤ ln x k j ∧ ln x k j ≤ L)) (hq : k ≤ q) : ¬ (-(L : Int) ≤ ln x q j ∧ ln x q j ≤ L) := by
  unfold ln at *
  split at hk <;> split <;> first | omega | (rename_i a b; exact absurd a b) | (rename_i a b; exact absurd b a)

def kKeep : List Bool := [false, true, true, false, true, true, true, true, true, true, false, true, true, false, false, false, false]
theorem get_atLeast {H : Heap} {n b : Nat} : (H.atLeast n).get b = H.get b := rfl
theorem Mem.atLeast {es cur : List AV} {p : Bool} {b n : Nat} {row : List Bool} {H : Heap} (h : Mem es p cur b row H) : Mem es p cur b row (H.atLeast n) := ⟨h.t, h.c, h.r, h.o, Nat.lt_of_lt_of_le h.n (Nat.le_max_left _ _)⟩
theorem Mem.put {es cur : List AV} {p : Bool} {b : Nat} {row row' : List Bool} {H : Heap} (h : Mem es p cur b row H) : Mem es p cur b row' (H.put b (.sl 0 1 true (bools row'))) := by
  refine ⟨?_, ?_, ?_, h.o, Nat.lt_of_lt_of_le (Nat.lt_succ_self b) (Nat.le_max_right _ _)⟩
  · rw [get_put, if_neg (by rcases h.c with rfl | ⟨rfl, _⟩ <;> omega)]; exact h.t
  · rcases h.c with rfl | ⟨rfl, h1⟩
    · exact .inl rfl
    · exact .inr ⟨rfl, by rw [get_put, if_neg (by omega)]; exact h1⟩
  · rw [get_put, if_pos rfl]
theorem anyFrom_succ {N L E r j u : Nat} {x : Int} {k : Nat} : anyFrom N L E r j u x k ↔ (u + k ≤ N ∧ (-(L : Int) ≤ ln x k j ∧ ln x k j ≤ L) ∧ fits N L E r (j + 1) (u + k) (ln x k j) = true) ∨ anyFrom N L E r j u x (k + 1) := by
  constructor
  · rintro ⟨q, h1, h2, h3, h4⟩
    by_cases e : q = k
    · subst e; exact .inl ⟨h2, h3, h4⟩
    · exact .inr ⟨q, by omega, h2, h3, h4⟩
  · rintro (⟨h2, h3, h4⟩ | ⟨q, h1, h2, h3, h4⟩)
    · exact ⟨k, Nat.le_refl _, h2, h3, h4⟩
    · exact ⟨q, by omega, h2, h3, h4⟩
theorem anyFrom_end {N L E r j u : Nat} {x : Int} {k : Nat} (h : ¬ u + k ≤ N) : ¬ anyFrom N L E r j u x k := by
  rintro ⟨q, h1, h2, _⟩; omega
theorem anyFrom_far {N L E r j u : Nat} {x : Int} {k : Nat} (hx : -(L : Int) ≤ x ∧ x ≤ L) (h : ¬ (-(L : Int) ≤ ln x k j ∧ ln x k j ≤ L)) : ¬ anyFrom N L E r j u x k := by
  rintro ⟨q, h1, _, h3, _⟩; exact ln_far hx h h1 h3
/-- the frame at the k-loop's head, and at its ends -/
def kFr (N L E M j u b i k : Nat) (c : AV) : List AV := [.undef, .int .i64 M, .ip [.int .i64 N, .int .i64 L, .int .i64 E] 0, .undef, .hs 0 0, .int .i64 j, .int .i64 u, .hs b 0, .int .i64 ((i : Int) - L), .int .i64 k, .undef, .int .i64 ((N : Int) + 1), .int .i64 u, .undef, .undef, .undef, c]
theorem kbody_end (hh : Hk h) {N L E M j u b i k uk : Nat} {HM : Heap} (w1 : IntKind.i64.wrap ((u : Int) + k) = uk) (c1i : ¬ (uk : Int) ≤ N) (f : Nat) :
    bodyOf h an74 c74_58 f (kFr N L E M j u b i k .undef) HM = some (.exit 6, kFr N L E M j u b i k (.bool false), HM.atLeast (HM.next + 200)) := by
  simp [-Option.bind_some, kFr, c74_58_run, c74_59_run, c74_60_k1, c74_60_k2, c74_60_k3, c74_60_k4, c74_60_run, c74_61_run, c74_62_run, c74_63_run, c74_64_run, c74_65_run, c74_66_k1, c74_66_k2, c74_66_k3, c74_66_k4, c74_66_k5, c74_66_run, c74_67_run, seqX, w1, c1i, pCall_free, okp_ok, okPair, disj, -Option.some.injEq]
theorem kbody_far (hh : Hk h) {N L E M j u b i k uk : Nat} {x : Int} {HM : Heap} (w1 : IntKind.i64.wrap ((u : Int) + k) = uk) (c1i : (uk : Int) ≤ N) (f : Nat)
    (e1 : acall Try.prog annOf h f 71 [.int .i64 ((i : Int) - L), .int .i64 k, .int .i64 j] [] = some (.int .i64 x, [])) (e2 : acall Try.prog annOf h f 72 [.int .i64 x, .int .i64 L] [] = some (.bool false, [])) :
    bodyOf h an74 c74_58 f (kFr N L E M j u b i k .undef) HM = some (.exit 6, kFr N L E M j u b i k (.bool false), HM.atLeast (HM.next + 200)) := by
  simp [-Option.bind_some, kFr, c74_58_run, c74_59_run, c74_60_k1, c74_60_k2, c74_60_k3, c74_60_k4, c74_60_run, c74_61_run, c74_62_run, c74_63_run, c74_64_run, c74_65_run, c74_66_k1, c74_66_k2, c74_66_k3, c74_66_k4, c74_66_k5, c74_66_run, c74_67_run, seqX, w1, c1i, pCall_free, e1, e2, okp_ok, okPair, disj, -Option.some.injEq]
theorem kbody_true (hh : Hk h) {N L E M j u b i k uk : Nat} {x : Int} {HM : Heap} (w1 : IntKind.i64.wrap ((u : Int) + k) = uk) (w2 : IntKind.i64.wrap (i : Int) = i) (c1i : (uk : Int) ≤ N) (f : Nat)
    (e1 : acall Try.prog annOf h f 71 [.int .i64 ((i : Int) - L), .int .i64 k, .int .i64 j] [] = some (.int .i64 x, [])) (e2 : acall Try.prog annOf h f 72 [.int .i64 x, .int .i64 L] [] = some (.bool true, []))
    (f1 : pIndexAddr Try.prog 42 (.hs b 0) (.int .i64 i) HM = some (.he b 0 i 0)) (f2 : pLoad Try.prog 4 (.he b 0 i 0) HM = some (.bool true)) :
    bodyOf h an74 c74_58 f (kFr N L E M j u b i k .undef) HM = some (.exit 6, kFr N L E M j u b i k (.bool false), HM.atLeast (HM.next + 200)) := by
  simp [-Option.bind_some, kFr, c74_58_run, c74_59_run, c74_60_k1, c74_60_k2, c74_60_k3, c74_60_k4, c74_60_run, c74_61_run, c74_62_run, c74_63_run, c74_64_run, c74_65_run, c74_66_k1, c74_66_k2, c74_66_k3, c74_66_k4, c74_66_k5, c74_66_run, c74_67_run, seqX, w1, c1i, pCall_free, e1, e2, w2, f1, f2, okp_ok, okPair, disj, -Option.some.injEq]
theorem kbody_step (hh : Hk h) {N L E M j u b i k uk j1 k1 lx : Nat} {x : Int} {HM H2 : Heap} {T R : List AV} {nv : Bool} (w1 : IntKind.i64.wrap ((u : Int) + k) = uk) (w2 : IntKind.i64.wrap (i : Int) = i) (c1i : (uk : Int) ≤ N) (f : Nat)
    (w3 : IntKind.i64.wrap ((j : Int) + 1) = j1) (w4 : IntKind.i64.wrap ((k : Int) + 1) = k1) (w5 : IntKind.i64.wrap (x + L) = lx) (hb0 : b ≠ 0)
    (e1 : acall Try.prog annOf h f 71 [.int .i64 ((i : Int) - L), .int .i64 k, .int .i64 j] [] = some (.int .i64 x, [])) (e2 : acall Try.prog annOf h f 72 [.int .i64 x, .int .i64 L] [] = some (.bool true, []))
    (f1 : pIndexAddr Try.prog 42 (.hs b 0) (.int .i64 i) HM = some (.he b 0 i 0)) (f2 : pLoad Try.prog 4 (.he b 0 i 0) HM = some (.bool false))
    (a1 : pIndexAddr Try.prog 149 (.hs 0 0) (.int .i64 j1) (HM.atLeast (HM.next + 200)) = some (.he 0 0 j1 0)) (a2 : pLoad Try.prog 151 (.he 0 0 j1 0) (HM.atLeast (HM.next + 200)) = some (.vs T))
    (a3 : pIndexAddr Try.prog 151 (.vs T) (.int .i64 uk) (HM.atLeast (HM.next + 200)) = some (.ip [.vs R] 0)) (a4 : pIndexAddr Try.prog 42 (.vs R) (.int .i64 lx) (HM.atLeast (HM.next + 200)) = some (.ip [.bool nv] 0))
    (a5 : pIndexAddr Try.prog 42 (.hs b 0) (.int .i64 i) (HM.atLeast (HM.next + 200)) = some (.he b 0 i 0)) (a6 : pStore Try.prog 4 (.he b 0 i 0) (.bool nv) (HM.atLeast (HM.next + 200)) = some H2) :
    bodyOf h an74 c74_58 f (kFr N L E M j u b i k .undef) HM = some (.normal, kFr N L E M j u b i k1 (.bool true), H2.atLeast (HM.next + 408)) := by
  have hn : (HM.atLeast (HM.next + 200)).next + 208 = HM.next + 408 := by simp [Heap.atLeast]
  simp [-Option.bind_some, kFr, c74_58_run, c74_59_run, c74_60_k1, c74_60_k2, c74_60_k3, c74_60_k4, c74_60_run, c74_61_run, c74_62_run, c74_63_run, c74_64_run, c74_65_run, c74_66_k1, c74_66_k2, c74_66_k3, c74_66_k4, c74_66_k5, c74_66_run, c74_67_run, seqX, blockX, w1, c1i, pCall_free, e1, e2, w2, w3, w5, f1, f2, a1, a2, a3, a4, a5, a6, okp_ok, okPair, disj, hb0, -Option.some.injEq, -Int.natCast_add]
  rw [okp_ok (by kernel_rfl), hn]
  simp [-Option.bind_some, c74_67_run, w4, -Option.some.injEq, -Int.natCast_add]
set_option maxHeartbeats 1000000 in
theorem kloop (hh : Hk h) {N L E M j u b i : Nat} {es cur : List AV} {p : Bool} (hN : N ≤ 200) (hL : L ≤ 200) (hM : M ≤ 201) (hj : j < M) (hu : u ≤ N) (hi : i < 2 * L + 1) (hb : b = 1 ∨ b = 2) (hT : Tab es p b)
    (he : es[j + 1]? = some (.vs (tabT N L E (M - j - 1) (j + 1)))) :
    ∀ (d k : Nat) (row : List Bool) (v : Bool), N + 1 - k = d → 1 ≤ k → k ≤ N + 1 → row.length = 2 * L + 1 → row[i]? = some v → ∀ (x0 x4 x16 x23 x36 x41 x82 : AV) (H : Heap), Mem es p cur b row H →
      LoopQ (bodyOf h an74 c74_58) kKeep [x0, .int .i64 M, .ip [.int .i64 N, .int .i64 L, .int .i64 E] 0, x4, .hs 0 0, .int .i64 j, .int .i64 u, .hs b 0, .int .i64 ((i : Int) - L), .int .i64 k, x16, .int .i64 ((N : Int) + 1), .int .i64 u, x23, x36, x41, x82] H
        fun ex fr' H' => ex = .exit 6 ∧ (∃ w : Bool, Mem es p cur b (row.set i w) H' ∧ (w = true ↔ (v = true ∨ anyFrom N L E (M - j - 1) j u ((i : Int) - L) k))) ∧
          ∃ y0 y3 y9 y10 y13 y14 y15 y16, fr' = [y0, .int .i64 M, .ip [.int .i64 N, .int .i64 L, .int .i64 E] 0, y3, .hs 0 0, .int .i64 j, .int .i64 u, .hs b 0, .int .i64 ((i : Int) - L), y9, y10, .int .i64 ((N : Int) + 1), .int .i64 u, y13, y14, y15, y16] := by
  intro d
  induction d with
  | zero =>
    intro k row v hd hk1 hk2 hrl hrow x0 x4 x16 x23 x36 x41 x82 H hMem
    have hcan := mem_canon (keep := kKeep) (fr := [x0, .int .i64 M, .ip [.int .i64 N, .int .i64 L, .int .i64 E] 0, x4, .hs 0 0, .int .i64 j, .int .i64 u, .hs b 0, .int .i64 ((i : Int) - L), .int .i64 k, x16, .int .i64 ((N : Int) + 1), .int .i64 u, x23, x36, x41, x82]) hMem hT (by simp [kKeep, AV.refsL, AV.refs]) (fun f f0 fb => by simp [kKeep, AV.renL, AV.ren, f0, fb])
    have hP := packM_mem (es := es) (p := p) (cur := cur) (row := row) hb
    generalize hHM : packM es p cur b row = HM at hcan hP
    obtain ⟨uk, huk⟩ : ∃ uk, uk = u + k := ⟨_, rfl⟩
    have w1 : IntKind.i64.wrap ((u : Int) + k) = uk := by rw [wrap_i64 (by omega) (by omega)]; omega
    have c1i : ¬ (uk : Int) ≤ N := by omega
    have hset : row.set i v = row := by rw [List.getElem?_eq_some_iff] at hrow; obtain ⟨_, rfl⟩ := hrow; simp
    apply LoopQ.exit 0 hcan
    case h =>
      intro f hf
      exact kbody_end hh w1 c1i f
    · simp
    · exact ⟨rfl, ⟨v, by rw [hset]; exact hP.atLeast, by simp [anyFrom_end (show ¬ u + k ≤ N by omega)]⟩, _, _, _, _, _, _, _, _, rfl⟩
  | succ d ih =>
    intro k row v hd hk1 hk2 hrl hrow x0 x4 x16 x23 x36 x41 x82 H hMem
    have hcan := mem_canon (keep := kKeep) (fr := [x0, .int .i64 M, .ip [.int .i64 N, .int .i64 L, .int .i64 E] 0, x4, .hs 0 0, .int .i64 j, .int .i64 u, .hs b 0, .int .i64 ((i : Int) - L), .int .i64 k, x16, .int .i64 ((N : Int) + 1), .int .i64 u, x23, x36, x41, x82]) hMem hT (by simp [kKeep, AV.refsL, AV.refs]) (fun f f0 fb => by simp [kKeep, AV.renL, AV.ren, f0, fb])
    have hP := packM_mem (es := es) (p := p) (cur := cur) (row := row) hb
    generalize hHM : packM es p cur b row = HM at hcan hP
    have g0 := hP.t
    have gb := hP.r
    obtain ⟨j1, hj1⟩ : ∃ j1, j1 = j + 1 := ⟨_, rfl⟩
    obtain ⟨uk, huk⟩ : ∃ uk, uk = u + k := ⟨_, rfl⟩
    obtain ⟨k1, hk1'⟩ : ∃ k1, k1 = k + 1 := ⟨_, rfl⟩
    have hset : row.set i v = row := by rw [List.getElem?_eq_some_iff] at hrow; obtain ⟨_, rfl⟩ := hrow; simp
    have hxr : -(L : Int) ≤ (i : Int) - L ∧ (i : Int) - L ≤ L := by omega
    obtain ⟨K2, hln⟩ := lean_con hh ((i : Int) - L) k j (by omega) (by omega) (by omega) (by omega)
    rw [leanF_ln] at hln
    have hlb : -1000 ≤ ln ((i : Int) - L) k j ∧ ln ((i : Int) - L) k j ≤ 1000 := by unfold ln; split <;> omega
    obtain ⟨K3, hkp⟩ := keeps_con hh (ln ((i : Int) - L) k j) L (by omega) (by omega)
    have w1 : IntKind.i64.wrap ((u : Int) + k) = uk := by rw [wrap_i64 (by omega) (by omega)]; omega
    have w2 : IntKind.i64.wrap (i : Int) = i := wrap_i64 (by omega) (by omega)
    have w3 : IntKind.i64.wrap ((j : Int) + 1) = j1 := by rw [wrap_i64 (by omega) (by omega)]; omega
    have w4 : IntKind.i64.wrap ((k : Int) + 1) = k1 := by rw [wrap_i64 (by omega) (by omega)]; omega
    have f1 := idx42_hs (i := i) gb (by rw [bools_length, hrl]; exact hi)
    have hbr : (bools row)[i]? = some (.bool v) := by rw [bools_get, hrow]; rfl
    have f2 : pLoad Try.prog 4 (.he b 0 i 0) HM = some (.bool v) := by rw [ld4_he gb hbr]; simp
    by_cases c1 : uk ≤ N
    · have c1i : (uk : Int) ≤ N := by omega
      by_cases c2 : -(L : Int) ≤ ln ((i : Int) - L) k j ∧ ln ((i : Int) - L) k j ≤ L
      · cases v with
        | true =>
          apply LoopQ.exit (max K2 K3) hcan
          case h =>
            intro f hf
            have e1 := hln f (by omega)
            have e2 := hkp f (by omega)
            rw [show (decide (-(L : Int) ≤ ln ((i : Int) - L) k j) && decide (ln ((i : Int) - L) k j ≤ L)) = true by simp [c2]] at e2
            exact kbody_true hh w1 w2 c1i f e1 e2 f1 f2
          · simp
          · exact ⟨rfl, ⟨true, by rw [hset]; exact hP.atLeast, by simp⟩, _, _, _, _, _, _, _, _, rfl⟩
        | false =>
          obtain ⟨lx, hlx⟩ : ∃ lx : Nat, (lx : Int) = ln ((i : Int) - L) k j + L := ⟨(ln ((i : Int) - L) k j + L).toNat, by omega⟩
          obtain ⟨nv, hnv⟩ : ∃ nv, nv = fits N L E (M - j - 1) (j + 1) ((u : Int) + k) (ln ((i : Int) - L) k j) := ⟨_, rfl⟩
          have w5 : IntKind.i64.wrap (ln ((i : Int) - L) k j + L) = lx := by rw [wrap_i64 (by omega) (by omega)]; omega
          have he' : es[j1]? = some (.vs (tabT N L E (M - j - 1) (j + 1))) := by rw [hj1]; exact he
          have q0 : (HM.atLeast (HM.next + 200)).get 0 = some (.sl 0 1 p es) := by rw [get_atLeast]; exact g0
          have qb : (HM.atLeast (HM.next + 200)).get b = some (.sl 0 1 true (bools row)) := by rw [get_atLeast]; exact gb
          have a1 := idx149_hs (i := j1) q0 (by rw [List.getElem?_eq_some_iff] at he'; exact he'.1)
          have a2 : pLoad Try.prog 151 (.he 0 0 j1 0) (HM.atLeast (HM.next + 200)) = some (.vs (tabT N L E (M - j - 1) (j + 1))) := by rw [ld151_he q0 he']; simp
          have a3 : pIndexAddr Try.prog 151 (.vs (tabT N L E (M - j - 1) (j + 1))) (.int .i64 uk) (HM.atLeast (HM.next + 200)) = some (.ip [.vs (bools (rowT N L E (M - j - 1) (j + 1) uk))] 0) := by
            rw [idx151_vs (tabT_get (by omega)) (by simp)]; simp
          have hrx : (bools (rowT N L E (M - j - 1) (j + 1) uk))[lx]? = some (.bool nv) := by
            rw [bools_get, rowT_get (by omega), hlx, hnv, show ((uk : Nat) : Int) = (u : Int) + k by omega]; simp
          have a4 : pIndexAddr Try.prog 42 (.vs (bools (rowT N L E (M - j - 1) (j + 1) uk))) (.int .i64 lx) (HM.atLeast (HM.next + 200)) = some (.ip [.bool nv] 0) := by
            rw [idx42_vs hrx (by simp)]; simp
          have a5 := idx42_hs (i := i) qb (by rw [bools_length, hrl]; exact hi)
          have a6 : pStore Try.prog 4 (.he b 0 i 0) (.bool nv) (HM.atLeast (HM.next + 200)) = some ((HM.atLeast (HM.next + 200)).put b (.sl 0 1 true (bools (row.set i nv)))) := by
            rw [st_he st4_sz (by simp) (by simp) qb hbr (by simp)]
            simp [reCells, splice, ← bools_set]
          have hb0 : b ≠ 0 := by rcases hb with rfl | rfl <;> omega
          apply LoopQ.step (max K2 K3) hcan
          case h =>
            intro f hf
            have e1 := hln f (by omega)
            have e2 := hkp f (by omega)
            rw [show (decide (-(L : Int) ≤ ln ((i : Int) - L) k j) && decide (ln ((i : Int) - L) k j ≤ L)) = true by simp [c2]] at e2
            exact kbody_step hh w1 w2 c1i f w3 w4 w5 hb0 e1 e2 f1 f2 a1 a2 a3 a4 a5 a6
          have hM1 : Mem es p cur b (row.set i nv) ((HM.atLeast (HM.next + 200)).put b (.sl 0 1 true (bools (row.set i nv)))) := hP.atLeast.put
          obtain ⟨ex, fr', H', hl, rfl, ⟨w, hw1, hw2⟩, y⟩ := ih k1 (row.set i nv) nv (by omega) (by omega) (by omega) (by simpa using hrl) (by rw [List.getElem?_set_self (by omega)]) .undef .undef .undef .undef .undef .undef (.bool true) _ hM1.atLeast
          refine ⟨_, fr', H', hl, rfl, ⟨w, by simpa using hw1, ?_⟩, y⟩
          rw [hw2, anyFrom_succ (k := k), ← hk1', hnv]
          simp [show u + k ≤ N by omega, c2]
      · have c2' : (decide (-(L : Int) ≤ ln ((i : Int) - L) k j) && decide (ln ((i : Int) - L) k j ≤ L)) = false := by
          simp only [Bool.and_eq_false_iff, decide_eq_false_iff_not]; omega
        apply LoopQ.exit (max K2 K3) hcan
        case h =>
          intro f hf
          have e1 := hln f (by omega)
          have e2 := hkp f (by omega)
          rw [c2'] at e2
          exact kbody_far hh w1 c1i f e1 e2
        · simp
        · exact ⟨rfl, ⟨v, by rw [hset]; exact hP.atLeast, by simp [anyFrom_far hxr c2]⟩, _, _, _, _, _, _, _, _, rfl⟩
    · have c1i : ¬ (uk : Int) ≤ N := by omega
      apply LoopQ.exit 0 hcan
      case h =>
        intro f hf
        exact kbody_end hh w1 c1i f
      · simp
      · exact ⟨rfl, ⟨v, by rw [hset]; exact hP.atLeast, by simp [anyFrom_end (show ¬ u + k ≤ N by omega)]⟩, _, _, _, _, _, _, _, _, rfl⟩
end Go.Proofs.Ytbkifahfbcalaaa
namespace Go.Proofs.Ytbkifahfbcalaaa
open Go.Am Go.Stk
variable {h : CallFn}

/-- a row, worked out up to a place -/
def part (R : List Bool) (i : Nat) : List Bool := R.take i ++ List.replicate (R.length - i) false
theorem part_zero {R : List Bool} : part R 0 = List.replicate R.length false := by simp [part]
theorem part_all {R : List Bool} : part R R.length = R := by simp [part]
theorem part_length {R : List Bool} {i : Nat} (h : i ≤ R.length) : (part R i).length = R.length := by simp [part]; omega
theorem part_get {R : List Bool} {i : Nat} (h : i < R.length) : (part R i)[i]? = some false := by
  have hl : (R.take i).length = i := by simp; omega
  rw [part, List.getElem?_append_right (by omega), hl, Nat.sub_self]
  obtain ⟨m, hm⟩ : ∃ m, R.length - i = m + 1 := ⟨R.length - i - 1, by omega⟩
  rw [hm]; rfl
theorem part_set {R : List Bool} {i : Nat} {w : Bool} (h : i < R.length) (hw : R[i]? = some w) : (part R i).set i w = part R (i + 1) := by
  have hl : (R.take i).length = i := by simp; omega
  rw [part, part, List.set_append_right _ _ (by omega), hl, Nat.sub_self, List.take_add_one, hw]
  obtain ⟨m, hm⟩ : ∃ m, R.length - i = m + 1 := ⟨R.length - i - 1, by omega⟩
  have hm' : R.length - (i + 1) = m := by omega
  rw [hm, hm', List.replicate_succ]
  simp

def xKeep : List Bool := [false, true, true, false, true, true, true, true, true, false, false, true, true, false, false, false, false]
/-- the frame at the x-loop's head, and later -/
def xFr (N L E M j u b : Nat) (x : Int) (x10 x36 x41 x82 : AV) : List AV := [.undef, .int .i64 M, .ip [.int .i64 N, .int .i64 L, .int .i64 E] 0, .undef, .hs 0 0, .int .i64 j, .int .i64 u, .hs b 0, .int .i64 x, x10, .undef, .int .i64 ((N : Int) + 1), .int .i64 u, .undef, x36, x41, x82]
theorem xbody_end {N L E M j u b : Nat} {x : Int} {HM : Heap} (c1 : ¬ x ≤ (L : Int)) (f : Nat) :
    bodyOf h an74 c74_38 f (xFr N L E M j u b x .undef .undef .undef .undef) HM = some (.exit 4, xFr N L E M j u b x .undef (.bool false) .undef .undef, HM) := by
  simp [-Option.bind_some, xFr, c74_38_run, c74_39_run, c74_40_run, c74_41_run, c74_42_run, c74_43_run, c74_44_run, seqX, c1, -Option.some.injEq]
theorem xbody_last {N L E M u b i : Nat} {x x1 : Int} {HM H2 : Heap} {nv : Bool} (c1 : x ≤ (L : Int)) (f : Nat) (w1 : IntKind.i64.wrap (x + 1) = x1) (w2 : IntKind.i64.wrap (x + L) = i)
    (e2 : acall Try.prog annOf h f 72 [.int .i64 x, .int .i64 E] [] = some (.bool nv, []))
    (a5 : pIndexAddr Try.prog 42 (.hs b 0) (.int .i64 i) HM = some (.he b 0 i 0)) (a6 : pStore Try.prog 4 (.he b 0 i 0) (.bool (decide ((u : Int) = N) && nv)) HM = some H2) :
    bodyOf h an74 c74_38 f (xFr N L E M M u b x .undef .undef .undef .undef) HM = some (.normal, xFr N L E M M u b x1 .undef (.bool true) (.bool true) .undef, H2.atLeast (HM.next + 136)) := by
  by_cases cu : (u : Int) = N
  · simp only [cu, decide_true, Bool.true_and] at a6
    simp [-Option.bind_some, xFr, c74_38_run, c74_39_run, c74_40_run, c74_41_run, c74_42_run, c74_43_run, c74_44_run, c74_45_run, c74_46_run, c74_47_run, c74_48_run, c74_49_run, c74_50_run, c74_51_k1, c74_51_k2, c74_51_k3, c74_51_run, c74_52_run, c74_53_run, c74_54_run, c74_68_run, seqX, blockX, c1, w1, w2, e2, cu, pCall_free, okp_ok, okPair, disj, a5, a6, -Option.some.injEq]
    rw [okp_ok (by kernel_rfl)]
    simp [-Option.bind_some, c74_52_run, c74_68_run, w1, -Option.some.injEq]
  · simp only [cu, decide_false, Bool.false_and] at a6
    simp [-Option.bind_some, xFr, c74_38_run, c74_39_run, c74_40_run, c74_41_run, c74_42_run, c74_43_run, c74_44_run, c74_45_run, c74_46_run, c74_47_run, c74_48_run, c74_49_run, c74_50_run, c74_51_k1, c74_51_k2, c74_51_k3, c74_51_run, c74_52_run, c74_53_run, c74_54_run, c74_68_run, seqX, blockX, c1, w1, w2, cu, pCall_free, okp_ok, okPair, disj, a5, a6, -Option.some.injEq]
    rw [okp_ok (by kernel_rfl)]
    simp [-Option.bind_some, c74_52_run, c74_68_run, w1, -Option.some.injEq]
theorem xbody_rest {N L E M j u b : Nat} {x x1 : Int} {HM H2 : Heap} {y0 y3 y9 y10 y13 y14 y15 y16 : AV} (c1 : x ≤ (L : Int)) (f : Nat) (w1 : IntKind.i64.wrap (x + 1) = x1) (hj : ¬ (j : Int) = M)
    (hl : loopU (bodyOf h an74 c74_58 f) true 0 kKeep f (xFr N L E M j u b x (.int .i64 1) (.bool true) (.bool false) .undef) HM = some (.exit 6, [y0, .int .i64 M, .ip [.int .i64 N, .int .i64 L, .int .i64 E] 0, y3, .hs 0 0, .int .i64 j, .int .i64 u, .hs b 0, .int .i64 x, y9, y10, .int .i64 ((N : Int) + 1), .int .i64 u, y13, y14, y15, y16], H2)) :
    bodyOf h an74 c74_38 f (xFr N L E M j u b x .undef .undef .undef .undef) HM = some (.normal, [y0, .int .i64 M, .ip [.int .i64 N, .int .i64 L, .int .i64 E] 0, y3, .hs 0 0, .int .i64 j, .int .i64 u, .hs b 0, .int .i64 x1, y9, y10, .int .i64 ((N : Int) + 1), .int .i64 u, y13, y14, y15, y16], H2) := by
  simp only [xFr, kKeep] at hl
  simp [-Option.bind_some, xFr, c74_38_run, c74_39_run, c74_40_run, c74_41_run, c74_42_run, c74_43_run, c74_44_run, c74_45_run, c74_46_run, c74_47_run, c74_48_run, c74_49_run, c74_50_run, c74_51_k1, c74_51_k2, c74_51_k3, c74_51_run, c74_52_run, c74_53_run, c74_54_run, c74_55_run, c74_56_run, c74_57_run, c74_68_run, seqX, blockX, c1, w1, hj, hl, -Option.some.injEq]

theorem xloop (hh : Hk h) {N L E M j u b : Nat} {es cur : List AV} {p : Bool} (hN : N ≤ 200) (hL : L ≤ 200) (hE : E ≤ 200) (hM : M ≤ 201) (hj : j ≤ M) (hu : u ≤ N) (hb : b = 1 ∨ b = 2) (hT : Tab es p b)
    (he : j < M → es[j + 1]? = some (.vs (tabT N L E (M - j - 1) (j + 1)))) :
    ∀ (d i : Nat), 2 * L + 1 - i = d → i ≤ 2 * L + 1 → ∀ (x0 x4 x10 x16 x23 x36 x41 x82 : AV) (H : Heap), Mem es p cur b (part (rowT N L E (M - j) j u) i) H →
      LoopQ (bodyOf h an74 c74_38) xKeep [x0, .int .i64 M, .ip [.int .i64 N, .int .i64 L, .int .i64 E] 0, x4, .hs 0 0, .int .i64 j, .int .i64 u, .hs b 0, .int .i64 ((i : Int) - L), x10, x16, .int .i64 ((N : Int) + 1), .int .i64 u, x23, x36, x41, x82] H
        fun ex fr' H' => ex = .exit 4 ∧ Mem es p cur b (rowT N L E (M - j) j u) H' ∧
          ∃ y0 y3 y8 y9 y10 y13 y14 y15 y16, fr' = [y0, .int .i64 M, .ip [.int .i64 N, .int .i64 L, .int .i64 E] 0, y3, .hs 0 0, .int .i64 j, .int .i64 u, .hs b 0, y8, y9, y10, .int .i64 ((N : Int) + 1), .int .i64 u, y13, y14, y15, y16] := by
  intro d
  have hRl : (rowT N L E (M - j) j u).length = 2 * L + 1 := rowT_length
  induction d with
  | zero =>
    intro i hd hi x0 x4 x10 x16 x23 x36 x41 x82 H hMem
    have hi' : i = 2 * L + 1 := by omega
    have hcan := mem_canon (keep := xKeep) (fr := [x0, .int .i64 M, .ip [.int .i64 N, .int .i64 L, .int .i64 E] 0, x4, .hs 0 0, .int .i64 j, .int .i64 u, .hs b 0, .int .i64 ((i : Int) - L), x10, x16, .int .i64 ((N : Int) + 1), .int .i64 u, x23, x36, x41, x82]) hMem hT (by simp [xKeep, AV.refsL, AV.refs]) (fun f f0 fb => by simp [xKeep, AV.renL, AV.ren, f0, fb])
    have hP := packM_mem (es := es) (p := p) (cur := cur) (row := part (rowT N L E (M - j) j u) i) hb
    generalize packM es p cur b (part (rowT N L E (M - j) j u) i) = HM at hcan hP
    rw [hi', ← hRl, part_all] at hP
    exact LoopQ.exit 0 hcan (fun f _ => xbody_end (by omega) f) (by simp) ⟨rfl, hP, _, _, _, _, _, _, _, _, _, rfl⟩
  | succ d ih =>
    intro i hd hi x0 x4 x10 x16 x23 x36 x41 x82 H hMem
    have hi' : i < 2 * L + 1 := by omega
    have hcan := mem_canon (keep := xKeep) (fr := [x0, .int .i64 M, .ip [.int .i64 N, .int .i64 L, .int .i64 E] 0, x4, .hs 0 0, .int .i64 j, .int .i64 u, .hs b 0, .int .i64 ((i : Int) - L), x10, x16, .int .i64 ((N : Int) + 1), .int .i64 u, x23, x36, x41, x82]) hMem hT (by simp [xKeep, AV.refsL, AV.refs]) (fun f f0 fb => by simp [xKeep, AV.renL, AV.ren, f0, fb])
    have hP := packM_mem (es := es) (p := p) (cur := cur) (row := part (rowT N L E (M - j) j u) i) hb
    generalize packM es p cur b (part (rowT N L E (M - j) j u) i) = HM at hcan hP
    have gb := hP.r
    have hpl : (part (rowT N L E (M - j) j u) i).length = 2 * L + 1 := by rw [part_length (by omega), hRl]
    have hpg : (part (rowT N L E (M - j) j u) i)[i]? = some false := part_get (by omega)
    have hRi := rowT_get (N := N) (L := L) (E := E) (r := M - j) (j := j) (u := u) hi'
    have w1 : IntKind.i64.wrap ((i : Int) - L + 1) = ((i + 1 : Nat) : Int) - L := by rw [wrap_i64 (by omega) (by omega)]; omega
    by_cases hjM : j = M
    · subst hjM
      obtain ⟨K, hk⟩ := keeps_con hh ((i : Int) - L) E (by omega) (by omega)
      have w2 : IntKind.i64.wrap ((i : Int) - L + L) = i := by rw [wrap_i64 (by omega) (by omega)]; omega
      have a5 := idx42_hs (i := i) gb (by rw [bools_length, hpl]; exact hi')
      have hnv : fits N L E (j - j) j u ((i : Int) - L) = (decide ((u : Int) = N) && (decide (-(E : Int) ≤ (i : Int) - L) && decide ((i : Int) - L ≤ E))) := by
        rw [Nat.sub_self]; simp only [fits]
      have a6 : pStore Try.prog 4 (.he b 0 i 0) (.bool (decide ((u : Int) = N) && (decide (-(E : Int) ≤ (i : Int) - L) && decide ((i : Int) - L ≤ E)))) HM = some (HM.put b (.sl 0 1 true (bools (part (rowT N L E (j - j) j u) (i + 1))))) := by
        have hbr : (bools (part (rowT N L E (j - j) j u) i))[i]? = some (.bool false) := by rw [bools_get, hpg]; rfl
        rw [st_he st4_sz (by simp) (by simp) gb hbr (by simp), ← hnv, ← part_set (by omega) hRi, ← bools_set]
        simp [reCells, splice]
      refine LoopQ.step K hcan (fun f hf => xbody_last (x1 := ((i + 1 : Nat) : Int) - L) (by omega) f w1 w2 (hk f hf) a5 a6) ?_
      exact ih (i + 1) (by omega) (by omega) _ _ _ _ _ _ _ _ _ (hP.put.atLeast)
    · have hjM : j < M := by omega
      obtain ⟨ex, fr', H', ⟨K, hl⟩, rfl, ⟨w, hw1, hw2⟩, y0, y3, y9, y10, y13, y14, y15, y16, rfl⟩ := kloop hh hN hL hM hjM hu hi' hb hT (he hjM) N 1 _ false (by omega) (by omega) (by omega) hpl hpg .undef .undef .undef .undef (.bool true) (.bool false) .undef HM hP
      have hwR : w = fits N L E (M - j) j u ((i : Int) - L) := by
        obtain ⟨r, hr⟩ : ∃ r, M - j = r + 1 := ⟨M - j - 1, by omega⟩
        have hr' : M - j - 1 = r := by omega
        have : w = true ↔ fits N L E (M - j) j u ((i : Int) - L) = true := by rw [hw2, hr, fits_succ, Nat.add_sub_cancel]; simp
        exact Bool.eq_iff_iff.2 this
      rw [hwR, part_set (by omega) hRi] at hw1
      refine LoopQ.step K hcan (fun f hf => xbody_rest (x1 := ((i + 1 : Nat) : Int) - L) (by omega) f w1 (by omega) (hl f hf f hf)) ?_
      exact ih (i + 1) (by omega) (by omega) _ _ _ _ _ _ _ _ _ hw1
end Go.Proofs.Ytbkifahfbcalaaa
namespace Go.Am
theorem make_row {P : Program} {t e : TypeId} {sz by_ : Nat} {z : AV} (hu : P.underlying t = some (.slice e)) (hs : size? P e = some sz) (hz : zero? P e = some z) (hi : ∃ inf, P.info? e = some inf ∧ inf.bytes = by_) (hsz : sz ≠ 0)
    (hok : (z.cells.length == sz && z.cells.all AV.one && z.refFree && z.isAgg == aggT P e) = true) {n : Nat} (hn : n ≤ 35184372088832) (hb : n * by_ ≤ 35184372088832) : pMake P t (.int .i64 n) (.int .i64 n) = some (sz, List.replicate n z) := by
  obtain ⟨inf, hi, rfl⟩ := hi
  simp only [Bool.and_eq_true, beq_iff_eq] at hok
  have h1 : ((n : Int) ≤ (maxBytes : Int)) := by simp only [maxBytes]; omega
  have h2 : ((n : Int) * (inf.bytes : Int) ≤ (maxBytes : Int)) := by rw [← Int.natCast_mul]; simp only [maxBytes]; omega
  have h3 := List.all_eq_true.1 hok.1.1.2
  simp [pMake, hu, hs, hz, hi, asN, hsz, hok.1.1.1, hok.1.2, hok.2, h1, h2]
  exact h3
theorem get_drop1 {H : Heap} {b c : Nat} : (H.drop [b]).get c = if c = b then none else H.get c := by
  rw [get_drop]; simp
theorem reached_b {H : Heap} {fr : List AV} {b : Nat} {x : ABlk} (hf : AV.refsL fr = [b]) (h0 : H.get b = some x) (r0 : x.refs = []) : reached H fr = [b] := by
  unfold reached touched
  rw [hf, fuel_eq, reach_at rfl h0, r0, List.nil_append, reach_nil]
  simp [h0]
theorem frz_row {H : Heap} {b g sz : Nat} {es : List AV} (hb : H.get b = some (.sl g sz true es)) : pFrz 0 (.hs b g) H = (.vs es, H.drop [b]) := by
  have hr : reached H [.hs b g] = [b] := reached_b rfl hb rfl
  have hf : ([b] : List Nat).filter (fun b => decide (0 ≤ b)) = [b] := by simp
  unfold pFrz
  rw [hr, hf]
  simp [AV.refFree, frz, hb]
end Go.Am
namespace Go.Proofs.Ytbkifahfbcalaaa
open Go.Am Go.Stk
variable {h : CallFn}

theorem make42 {n : Nat} (hn : n ≤ 1000) : pMake Try.prog 42 (.int .i64 n) (.int .i64 n) = some (1, List.replicate n (.bool false)) :=
  make_row (e := 4) (by_ := 1) (by kernel_rfl) (by kernel_rfl) (by kernel_rfl) ⟨((Try.prog.info? 4).getD default), by kernel_rfl, by kernel_rfl⟩ (by decide) (by kernel_rfl) (by omega) (by omega)
theorem make149 {n : Nat} (hn : n ≤ 1000) : pMake Try.prog 149 (.int .i64 n) (.int .i64 n) = some (1, List.replicate n .nils) :=
  make_row (e := 151) (by_ := 24) (by kernel_rfl) (by kernel_rfl) (by kernel_rfl) ⟨((Try.prog.info? 151).getD default), by kernel_rfl, by kernel_rfl⟩ (by decide) (by kernel_rfl) (by omega) (by omega)
theorem lit151 {R : List AV} : pLit Try.prog 151 1 [(0, .vs R)] = some (1, [.vs R]) := by kernel_rfl

/-- the memory at the used-loop's head -/
structure UMem (es0 : List AV) (p : Bool) (j u : Nat) (T : List AV) (H : Heap) : Prop where
  c : (u = 0 ∧ H.get 0 = some (.sl 0 1 p es0)) ∨ (u ≠ 0 ∧ ∃ B g, B ≠ 0 ∧ H.get 0 = some (.sl 0 1 false (es0.set j (.hs B g))) ∧ H.get B = some (.sl g 1 true (T.take u)))
  o : H.outer = []
theorem u69_0 {es0 T : List AV} {p : Bool} {j : Nat} {R : List Bool} {H : Heap} (hM : Mem es0 p [] 1 R H) (hj : es0[j]? = some .nils) (hT : T[0]? = some (.vs (bools R))) :
    ∃ H3, UMem es0 p j 1 T H3 ∧ ∀ (call : CallFn) (callY : YFn → FuncId → List AV → List OSt → Option (AV × List OSt)) (yl : Option YFn) (gc : Bool) (k : Nat) (x0 x1 x2 x4 x7 x9 x10 x16 x21 x22 x23 x36 x41 x82 : AV),
      arun (cxM call callY yl gc 0 an74 k) c74_69 [x0, x1, x2, x4, .hs 0 0, .int .i64 j, x7, .hs 1 0, x9, x10, x16, x21, x22, x23, x36, x41, x82] H = some (.normal, [x0, x1, x2, x4, .hs 0 0, .int .i64 j, x7, .hs 1 0, x9, x10, x16, x21, x22, x23, x36, x41, x82], H3) := by
  have g0 := hM.t
  have g1 := hM.r
  have hn := hM.n
  have hjl : j < es0.length := (List.getElem?_eq_some_iff.1 hj).1
  have hfz := frz_row g1
  have d0 : (H.drop [1]).get 0 = some (.sl 0 1 p es0) := by rw [get_drop1, if_neg (by omega)]; exact g0
  have a1 := idx149_hs (i := j) g0 hjl
  have a2 : pLoad Try.prog 151 (.he 0 0 j 0) H = some .nils := by rw [ld151_he g0 hj]; simp
  have hnx : (H.drop [1]).next = H.next := rfl
  have a3 := ap_nil (H := H.drop [1]) (nid := H.next) (s := .nils) (x := .vs [.vs (bools R)]) ap151_151 (.inl rfl) rowOf_vs (by simp [okSrc]) (by simp) (by simp)
  generalize hH2 : (H.drop [1]).put H.next (.sl 0 1 (AV.refFreeL [.vs (bools R)]) [.vs (bools R)]) = H2 at a3
  have h20 : H2.get 0 = some (.sl 0 1 p es0) := by rw [← hH2, get_put, if_neg (by omega)]; exact d0
  have h2n : H2.get H.next = some (.sl 0 1 true [.vs (bools R)]) := by rw [← hH2, get_put, if_pos rfl]; simp
  have a4 := idx149_hs (i := j) h20 hjl
  have a5 : pStore Try.prog 151 (.he 0 0 j 0) (.hs H.next 0) H2 = some (H2.put 0 (.sl 0 1 false (es0.set j (.hs H.next 0)))) := by
    rw [st_he st151_sz (by simp) (by simp) h20 hj (by simp)]
    simp [reCells, splice, AV.refFree]
  refine ⟨H2.put 0 (.sl 0 1 false (es0.set j (.hs H.next 0))), ⟨.inr ⟨by omega, H.next, 0, by omega, ?_, ?_⟩, ?_⟩, ?_⟩
  rotate_left 3
  · intro call callY yl gc k x0 x1 x2 x4 x7 x9 x10 x16 x21 x22 x23 x36 x41 x82
    have hrow : pRow 0 1 [.vs (bools R)] H.next (H.drop [1]) = (.vs [.vs (bools R)], H.drop [1]) := by simp [pRow, AV.okElem]
    simp [-Option.bind_some, c74_69_k1, c74_69_k2, c74_69_run, a1, a2, hfz, lit151, hnx, hrow, a3, a4, a5, -Option.some.injEq]
  · rw [get_put, if_pos rfl]
  · rw [get_put, if_neg (by omega), h2n]
    obtain ⟨a, r, rfl⟩ : ∃ a r, T = a :: r := by cases T <;> simp_all
    simp_all
  · rw [outer_put, ← hH2, outer_put]; exact hM.o
theorem u69_1 {es0 T : List AV} {p : Bool} {j u : Nat} {R : List Bool} {H : Heap} (hM : Mem (es0.set j (.hs 1 0)) false (T.take u) 2 R H) (hj : es0[j]? = some .nils) (hT : T[u]? = some (.vs (bools R))) (hTl : T.length ≤ 1000) :
    ∃ H3, UMem es0 p j (u + 1) T H3 ∧ ∀ (call : CallFn) (callY : YFn → FuncId → List AV → List OSt → Option (AV × List OSt)) (yl : Option YFn) (gc : Bool) (k : Nat) (x0 x1 x2 x4 x7 x9 x10 x16 x21 x22 x23 x36 x41 x82 : AV),
      arun (cxM call callY yl gc 0 an74 k) c74_69 [x0, x1, x2, x4, .hs 0 0, .int .i64 j, x7, .hs 2 0, x9, x10, x16, x21, x22, x23, x36, x41, x82] H = some (.normal, [x0, x1, x2, x4, .hs 0 0, .int .i64 j, x7, .hs 2 0, x9, x10, x16, x21, x22, x23, x36, x41, x82], H3) := by
  have g0 := hM.t
  have g2 := hM.r
  have g1 : H.get 1 = some (.sl 0 1 true (T.take u)) := by
    rcases hM.c with hc | hc
    · exact absurd hc (by decide)
    · exact hc.2
  have hn := hM.n
  have hjl : j < es0.length := (List.getElem?_eq_some_iff.1 hj).1
  have hjl' : j < (es0.set j (.hs 1 0)).length := by simpa using hjl
  have hj' : (es0.set j (.hs 1 0))[j]? = some (.hs 1 0) := by simp [hjl]
  have hfz := frz_row g2
  have d0 : (H.drop [2]).get 0 = some (.sl 0 1 false (es0.set j (.hs 1 0))) := by rw [get_drop1, if_neg (by omega)]; exact g0
  have d1 : (H.drop [2]).get 1 = some (.sl 0 1 true (T.take u)) := by rw [get_drop1, if_neg (by omega)]; exact g1
  have a1 := idx149_hs (i := j) g0 hjl'
  have a2 : pLoad Try.prog 151 (.he 0 0 j 0) H = some (.hs 1 0) := by rw [ld151_he g0 hj']; simp
  have hnx : (H.drop [2]).next = H.next := rfl
  have a3 := ap_hs (H := H.drop [2]) (nid := H.next) (x := .vs [.vs (bools R)]) ap151_151 rowOf_vs (by simp [okSrc]) d1 (by simp) (by simp; omega)
  generalize hH2 : (H.drop [2]).put 1 (.sl (0 + 1) 1 (true && AV.refFreeL [.vs (bools R)]) (T.take u ++ [.vs (bools R)])) = H2 at a3
  have h20 : H2.get 0 = some (.sl 0 1 false (es0.set j (.hs 1 0))) := by rw [← hH2, get_put, if_neg (by omega)]; exact d0
  have h2n : H2.get 1 = some (.sl 1 1 true (T.take (u + 1))) := by rw [← hH2, get_put, if_pos rfl, List.take_add_one, hT]; simp
  have a4 := idx149_hs (i := j) h20 hjl'
  have a5 : pStore Try.prog 151 (.he 0 0 j 0) (.hs 1 1) H2 = some (H2.put 0 (.sl 0 1 false (es0.set j (.hs 1 1)))) := by
    rw [st_he st151_sz (by simp) (by simp) h20 hj' (by simp)]
    simp [reCells, splice, AV.refFree]
  refine ⟨H2.put 0 (.sl 0 1 false (es0.set j (.hs 1 1))), ⟨.inr ⟨by omega, 1, 1, by omega, ?_, ?_⟩, ?_⟩, ?_⟩
  rotate_left 3
  · intro call callY yl gc k x0 x1 x2 x4 x7 x9 x10 x16 x21 x22 x23 x36 x41 x82
    have hrow : pRow 0 1 [.vs (bools R)] H.next (H.drop [2]) = (.vs [.vs (bools R)], H.drop [2]) := by simp [pRow, AV.okElem]
    simp [-Option.bind_some, c74_69_k1, c74_69_k2, c74_69_run, a1, a2, hfz, lit151, hnx, hrow, a3, a4, a5, -Option.some.injEq]
  · rw [get_put, if_pos rfl]
  · rw [get_put, if_neg (by omega), h2n]
  · rw [outer_put, ← hH2, outer_put]; exact hM.o
end Go.Proofs.Ytbkifahfbcalaaa
namespace Go.Am
theorem refsL_set : ∀ {l : List AV} {j B g : Nat}, AV.refFreeL l = true → j < l.length → AV.refsL (l.set j (.hs B g)) = [B]
  | [], j, B, g, _, h => by simp at h
  | x :: r, 0, B, g, h, _ => by
    have h : AV.refFree x = true ∧ AV.refFreeL r = true := by simpa [AV.refFreeL] using h
    simp [AV.refsL, AV.refs, refsL_free r h.2]
  | x :: r, j + 1, B, g, h, hl => by
    have h : AV.refFree x = true ∧ AV.refFreeL r = true := by simpa [AV.refFreeL] using h
    simp only [List.set_cons_succ, AV.refsL, refs_free x h.1, List.nil_append]
    exact refsL_set h.2 (by simpa using hl)
theorem renL_set {f : Nat → Nat → Option (Nat × Nat)} {l : List AV} {j B g b' g' : Nat} (h : AV.refFreeL l = true) (hf : f B g = some (b', g')) : AV.renL f (l.set j (.hs B g)) = l.set j (.hs b' g') := by
  rw [AV.renL_map, List.map_set, ← AV.renL_map, AV.renL_free _ _ h]
  simp [AV.ren, hf]
theorem reached_0B {H : Heap} {fr : List AV} {B : Nat} {x y : ABlk} (hB : B ≠ 0) (hf : AV.refsL fr = [0]) (h0 : H.get 0 = some x) (r0 : x.refs = [B]) (h1 : H.get B = some y) (r1 : y.refs = []) : reached H fr = [0, B] := by
  unfold reached touched
  rw [hf, fuel_eq, reach_at rfl h0, r0, List.cons_append, List.nil_append, reach_at (by simp [hB]) h1, r1, List.nil_append, reach_nil]
  simp [h0, h1]
end Go.Am
namespace Go.Proofs.Ytbkifahfbcalaaa
open Go.Am Go.Stk
variable {h : CallFn}

def uKeep : List Bool := [false, true, true, false, true, true, false, false, false, false, false, true, true, false, false, false, false]
/-- the memory packed at the used-loop's head -/
def uHeap (es0 : List AV) (p : Bool) (j u : Nat) (T : List AV) : Heap := if u = 0 then ⟨1, [(0, .sl 0 1 p es0)], []⟩ else ⟨2, [(0, .sl 0 1 false (es0.set j (.hs 1 0))), (1, .sl 0 1 true (T.take u))], []⟩
structure Es0 (es0 : List AV) (j : Nat) : Prop where
  f : AV.refFreeL es0 = true
  o : ∀ e ∈ es0, e.cells.all AV.one = true
  j : es0[j]? = some .nils
theorem Es0.lt {es0 : List AV} {j : Nat} (h : Es0 es0 j) : j < es0.length := (List.getElem?_eq_some_iff.1 h.j).1
theorem Es0.ok {es0 : List AV} {p : Bool} {j : Nat} (h : Es0 es0 j) : ABlk.okRow (.sl 0 1 p es0) = true := by
  cases p with
  | true => rfl
  | false => simp only [ABlk.okRow]; rw [List.all_eq_true]; exact h.o
theorem Es0.ok' {es0 : List AV} {j B g : Nat} (h : Es0 es0 j) : ABlk.okRow (.sl 0 1 false (es0.set j (.hs B g))) = true := by
  simp only [ABlk.okRow]; rw [List.all_eq_true]
  intro e he
  rcases List.mem_or_eq_of_mem_set he with he | rfl
  · exact h.o e he
  · simp
theorem ucanon {es0 T : List AV} {p : Bool} {j u : Nat} {H : Heap} {fr : List AV} (hE : Es0 es0 j) (hM : UMem es0 p j u T H) (hf : AV.refsL (mask fr uKeep) = [0]) (hn : ∀ f : Nat → Nat → Option (Nat × Nat), f 0 0 = some (0, 0) → AV.renL f (mask fr uKeep) = mask fr uKeep) :
    canon true 0 uKeep fr H = (mask fr uKeep, uHeap es0 p j u T) := by
  rcases hM.c with ⟨rfl, h0⟩ | ⟨hu, B, g, hB, h0, h1⟩
  · have hre : (ABlk.sl 0 1 p es0).refs = [] := by
      cases p with
      | true => rfl
      | false => exact refsL_free _ hE.f
    have hreach := reached_1 hf h0 hre
    have hidx : toIdx H [0] (freshBut 0) 0 0 = some (0, 0) := by unfold toIdx; rw [h0]; rfl
    have hren : (ABlk.sl 0 1 p es0).ren (toIdx H [0] (freshBut 0)) (freshBut 0 0) = .sl 0 1 p es0 := by
      cases p with
      | true => simp [ABlk.ren, freshBut]
      | false => simp [ABlk.ren, freshBut, AV.renL_free _ _ hE.f]
    have hp : pack H [0] (freshBut 0) = [.sl 0 1 p es0] := by
      simp only [pack, List.filterMap_cons, List.filterMap_nil, h0, Option.map_some, hren]
    rw [canon_of hreach hp rfl (by simp only [List.all_cons, hE.ok, List.all_nil, Bool.and_true]) hM.o (hn _ hidx)]
    rfl
  · have hre : (ABlk.sl 0 1 false (es0.set j (.hs B g))).refs = [B] := refsL_set hE.f hE.lt
    have hreach := reached_0B hB hf h0 hre h1 rfl
    have hidx : toIdx H [0, B] (freshBut 0) 0 0 = some (0, 0) ∧ toIdx H [0, B] (freshBut 0) B g = some (1, 0) := by
      have hi : ([0, B] : List Nat).idxOf? B = some 1 := by simp [List.idxOf?, List.findIdx?_cons, Ne.symm hB]
      constructor
      · unfold toIdx; rw [h0]; rfl
      · unfold toIdx; rw [h1, hi]; simp [freshBut]
    have hp : pack H [0, B] (freshBut 0) = [.sl 0 1 false (es0.set j (.hs 1 0)), .sl 0 1 true (T.take u)] := by
      simp only [pack, List.filterMap_cons, List.filterMap_nil, h0, h1, Option.map_some]
      simp [ABlk.ren, freshBut, renL_set hE.f hidx.2]
    rw [canon_of hreach hp rfl (by simp only [List.all_cons, hE.ok', List.all_nil, Bool.and_true, Bool.true_and]; rfl) hM.o (hn _ hidx.1)]
    simp only [uHeap, if_neg hu]
    rfl
/-- the frame -/
def uFr (N L E M j : Nat) (u : Int) (x0 x4 x7 x8 x9 x10 x16 x23 x36 x41 x82 : AV) : List AV := [x0, .int .i64 M, .ip [.int .i64 N, .int .i64 L, .int .i64 E] 0, x4, .hs 0 0, .int .i64 j, x7, x8, x9, x10, x16, .int .i64 ((N : Int) + 1), .int .i64 u, x23, x36, x41, x82]
theorem ubody_end {N L E M j : Nat} {u : Int} {HM : Heap} (c1 : ¬ u < (N : Int) + 1) (f : Nat) :
    bodyOf h an74 c74_21 f (uFr N L E M j u .undef .undef .undef .undef .undef .undef .undef .undef .undef .undef .undef) HM = some (.exit 2, uFr N L E M j u .undef .undef .undef .undef .undef .undef .undef (.bool false) .undef .undef .undef, HM) := by
  simp [-Option.bind_some, uFr, c74_21_run, c74_22_run, c74_23_run, c74_24_run, c74_25_run, c74_26_run, c74_27_run, seqX, c1, -Option.some.injEq]
theorem ubody_step {N L E M j u b n1 : Nat} {u1 : Int} {HM H2 H3 : Heap} {row0 : List AV} {y0 y3 y8 y9 y10 y13 y14 y15 y16 : AV} (c1 : (u : Int) < (N : Int) + 1) (f : Nat) (w1 : IntKind.i64.wrap ((u : Int) + 1) = u1) (w2 : IntKind.i64.wrap (2 * (L : Int)) = 2 * L) (w3 : IntKind.i64.wrap (2 * (L : Int) + 1) = n1) (w4 : IntKind.i64.wrap (-(L : Int)) = -L)
    (hmk : pMake Try.prog 42 (.int .i64 n1) (.int .i64 n1) = some (1, row0)) (hb : HM.next = b)
    (hl : loopU (bodyOf h an74 c74_38 f) true 0 xKeep f [.undef, .int .i64 M, .ip [.int .i64 N, .int .i64 L, .int .i64 E] 0, .undef, .hs 0 0, .int .i64 j, .int .i64 u, .hs b 0, .int .i64 (-(L : Int)), .undef, .undef, .int .i64 ((N : Int) + 1), .int .i64 u, .bool true, .undef, .undef, .undef] (HM.put b (.sl 0 1 true row0)) =
      some (.exit 4, [y0, .int .i64 M, .ip [.int .i64 N, .int .i64 L, .int .i64 E] 0, y3, .hs 0 0, .int .i64 j, .int .i64 u, .hs b 0, y8, y9, y10, .int .i64 ((N : Int) + 1), .int .i64 u, y13, y14, y15, y16], H2))
    (h69 : ∀ x0 x1 x2 x4 x7 x9 x10 x16 x21 x22 x23 x36 x41 x82 : AV,
      bodyOf h an74 c74_69 f [x0, x1, x2, x4, .hs 0 0, .int .i64 j, x7, .hs b 0, x9, x10, x16, x21, x22, x23, x36, x41, x82] H2 = some (.normal, [x0, x1, x2, x4, .hs 0 0, .int .i64 j, x7, .hs b 0, x9, x10, x16, x21, x22, x23, x36, x41, x82], H3)) :
    bodyOf h an74 c74_21 f (uFr N L E M j u .undef .undef .undef .undef .undef .undef .undef .undef .undef .undef .undef) HM = some (.normal, uFr N L E M j u1 y0 y3 (.int .i64 u) (.hs b 0) y8 y9 y10 y13 y14 y15 y16, H3) := by
  simp only [xKeep] at hl
  simp [-Option.bind_some, uFr, c74_21_run, c74_22_run, c74_23_run, c74_24_run, c74_25_run, c74_26_run, c74_27_run, c74_28_run, c74_29_run, c74_30_run, c74_31_run, c74_32_run, c74_33_run, c74_34_run, c74_35_run, c74_36_run, c74_37_run, c74_70_run, seqX, blockX, c1, w1, w2, w3, w4, hmk, hb, hl, h69, -Option.some.injEq]
end Go.Proofs.Ytbkifahfbcalaaa
namespace Go.Proofs.Ytbkifahfbcalaaa
open Go.Am Go.Stk
variable {h : CallFn}

theorem tab0 {es0 : List AV} {p : Bool} {j : Nat} (hE : Es0 es0 j) : Tab es0 p 1 where
  refs := by
    cases p with
    | true => rfl
    | false => exact refsL_free _ hE.f
  ren := fun f _ _ => AV.renL_free _ _ hE.f
  ok := hE.ok
theorem tab1 {es0 : List AV} {j : Nat} (hE : Es0 es0 j) : Tab (es0.set j (.hs 1 0)) false 2 where
  refs := refsL_set hE.f hE.lt
  ren := fun f hf _ => renL_set hE.f hf
  ok := hE.ok'
theorem tabT_length {N L E r j : Nat} : (tabT N L E r j).length = N + 1 := by simp [tabT]
theorem row0_eq {N L E r j u : Nat} : List.replicate (2 * L + 1) (AV.bool false) = bools (part (rowT N L E r j u) 0) := by
  rw [part_zero, rowT_length]; simp [bools]
theorem uloop (hh : Hk h) {N L E M j : Nat} {es0 : List AV} {p : Bool} (hN : N ≤ 200) (hL : L ≤ 200) (hEb : E ≤ 200) (hM : M ≤ 201) (hj : j ≤ M) (hE : Es0 es0 j)
    (he : j < M → es0[j + 1]? = some (.vs (tabT N L E (M - j - 1) (j + 1)))) :
    ∀ (d u : Nat), N + 1 - u = d → u ≤ N + 1 → ∀ (x0 x4 x7 x8 x9 x10 x16 x23 x36 x41 x82 : AV) (H : Heap), UMem es0 p j u (tabT N L E (M - j) j) H →
      LoopQ (bodyOf h an74 c74_21) uKeep (uFr N L E M j u x0 x4 x7 x8 x9 x10 x16 x23 x36 x41 x82) H
        fun ex fr' H' => ex = .exit 2 ∧ UMem es0 p j (N + 1) (tabT N L E (M - j) j) H' ∧ ∃ (y : Int) (y0 y4 y7 y8 y9 y10 y16 y23 y36 y41 y82 : AV), fr' = uFr N L E M j y y0 y4 y7 y8 y9 y10 y16 y23 y36 y41 y82 := by
  intro d
  induction d with
  | zero =>
    intro u hd hu x0 x4 x7 x8 x9 x10 x16 x23 x36 x41 x82 H hMem
    have hu' : u = N + 1 := by omega
    have hcan := ucanon (fr := uFr N L E M j u x0 x4 x7 x8 x9 x10 x16 x23 x36 x41 x82) hE hMem (by simp [uFr, uKeep, AV.refsL, AV.refs]) (fun f f0 => by simp [uFr, uKeep, AV.renL, AV.ren, f0])
    subst hu'
    refine LoopQ.exit 0 hcan (fun f _ => ubody_end (by omega) f) (by simp) ⟨rfl, ⟨?_, ?_⟩, _, _, _, _, _, _, _, _, _, _, _, _, rfl⟩
    · exact .inr ⟨by omega, 1, 0, by omega, by simp [uHeap, Heap.get], by simp [uHeap, Heap.get, List.lookup]⟩
    · simp [uHeap]
  | succ d ih =>
    intro u hd hu x0 x4 x7 x8 x9 x10 x16 x23 x36 x41 x82 H hMem
    have hu' : u ≤ N := by omega
    have hcan := ucanon (fr := uFr N L E M j u x0 x4 x7 x8 x9 x10 x16 x23 x36 x41 x82) hE hMem (by simp [uFr, uKeep, AV.refsL, AV.refs]) (fun f f0 => by simp [uFr, uKeep, AV.renL, AV.ren, f0])
    have w1 : IntKind.i64.wrap ((u : Int) + 1) = ((u + 1 : Nat) : Int) := by rw [wrap_i64 (by omega) (by omega)]; omega
    have w2 : IntKind.i64.wrap (2 * (L : Int)) = 2 * L := wrap_i64 (by omega) (by omega)
    have w3 : IntKind.i64.wrap (2 * (L : Int) + 1) = ((2 * L + 1 : Nat) : Int) := by rw [wrap_i64 (by omega) (by omega)]; omega
    have w4 : IntKind.i64.wrap (-(L : Int)) = -L := wrap_i64 (by omega) (by omega)
    have hmk := make42 (n := 2 * L + 1) (by omega)
    have hR : (tabT N L E (M - j) j)[u]? = some (.vs (bools (rowT N L E (M - j) j u))) := tabT_get (by omega)
    have hz : ((0 : Nat) : Int) - (L : Int) = -(L : Int) := by omega
    by_cases h0 : u = 0
    · subst h0
      have hm0 : Mem es0 p [] 1 (part (rowT N L E (M - j) j 0) 0) ((uHeap es0 p j 0 (tabT N L E (M - j) j)).put 1 (.sl 0 1 true (List.replicate (2 * L + 1) (.bool false)))) := by
        rw [row0_eq (N := N) (E := E) (r := M - j) (j := j) (u := 0)]
        exact ⟨by rw [get_put, if_neg (by omega)]; rfl, .inl rfl, by rw [get_put, if_pos rfl], rfl, Nat.lt_of_lt_of_le (Nat.lt_succ_self 1) (Nat.le_max_right _ _)⟩
      obtain ⟨ex, fr', H2, ⟨K, hl⟩, rfl, hM2, y0, y3, y8, y9, y10, y13, y14, y15, y16, rfl⟩ := xloop hh hN hL hEb hM hj hu' (.inl rfl) (tab0 hE) he (2 * L + 1) 0 (by omega) (by omega) .undef .undef .undef .undef (.bool true) .undef .undef .undef _ hm0
      rw [hz] at hl
      obtain ⟨H3, hU3, h69⟩ := u69_0 hM2 hE.j hR
      exact LoopQ.step K hcan (fun f hf => ubody_step (b := 1) (by omega) f w1 w2 w3 w4 hmk rfl (hl f hf f hf) (fun x0 x1 x2 x4 x7 x9 x10 x16 x21 x22 x23 x36 x41 x82 => h69 _ _ _ _ _ x0 x1 x2 x4 x7 x9 x10 x16 x21 x22 x23 x36 x41 x82)) (ih 1 (by omega) (by omega) _ _ _ _ _ _ _ _ _ _ _ _ hU3)
    · have hH : uHeap es0 p j u (tabT N L E (M - j) j) = ⟨2, [(0, .sl 0 1 false (es0.set j (.hs 1 0))), (1, .sl 0 1 true ((tabT N L E (M - j) j).take u))], []⟩ := by simp only [uHeap, if_neg h0]
      have hm0 : Mem (es0.set j (.hs 1 0)) false ((tabT N L E (M - j) j).take u) 2 (part (rowT N L E (M - j) j u) 0) ((uHeap es0 p j u (tabT N L E (M - j) j)).put 2 (.sl 0 1 true (List.replicate (2 * L + 1) (.bool false)))) := by
        rw [row0_eq (N := N) (E := E) (r := M - j) (j := j) (u := u), hH]
        exact ⟨by rw [get_put, if_neg (by omega)]; rfl, .inr ⟨rfl, by rw [get_put, if_neg (by omega)]; rfl⟩, by rw [get_put, if_pos rfl], rfl, Nat.lt_of_lt_of_le (Nat.lt_succ_self 2) (Nat.le_max_right _ _)⟩
      have he1 : j < M → (es0.set j (.hs 1 0))[j + 1]? = some (.vs (tabT N L E (M - j - 1) (j + 1))) := fun hj => by rw [List.getElem?_set_ne (by omega)]; exact he hj
      obtain ⟨ex, fr', H2, ⟨K, hl⟩, rfl, hM2, y0, y3, y8, y9, y10, y13, y14, y15, y16, rfl⟩ := xloop hh hN hL hEb hM hj hu' (.inr rfl) (tab1 hE) he1 (2 * L + 1) 0 (by omega) (by omega) .undef .undef .undef .undef (.bool true) .undef .undef .undef _ hm0
      rw [hz] at hl
      obtain ⟨H3, hU3, h69⟩ := u69_1 (p := p) hM2 hE.j hR (by rw [tabT_length]; omega)
      exact LoopQ.step K hcan (fun f hf => ubody_step (b := 2) (by omega) f w1 w2 w3 w4 hmk (by rw [hH]) (hl f hf f hf) (fun x0 x1 x2 x4 x7 x9 x10 x16 x21 x22 x23 x36 x41 x82 => h69 _ _ _ _ _ x0 x1 x2 x4 x7 x9 x10 x16 x21 x22 x23 x36 x41 x82)) (ih (u + 1) (by omega) (by omega) _ _ _ _ _ _ _ _ _ _ _ _ hU3)
end Go.Proofs.Ytbkifahfbcalaaa
namespace Go.Am
theorem frzEls_free : ∀ {l : List AV} {H : Heap}, AV.refFreeL l = true → frzEls 0 l H = (l, H)
  | [], H, _ => rfl
  | x :: r, H, h => by
    have h : AV.refFree x = true ∧ AV.refFreeL r = true := by simpa [AV.refFreeL] using h
    have hx : pFrz 0 x H = (x, H) := by simp [pFrz, h.1]
    simp [frzEls, hx, frzEls_free h.2]
theorem frzEls_set : ∀ {l : List AV} {H : Heap} {j B g sz : Nat} {T : List AV}, AV.refFreeL l = true → j < l.length → H.get B = some (.sl g sz true T) → frzEls 0 (l.set j (.hs B g)) H = (l.set j (.vs T), H.drop [B])
  | [], H, j, B, g, sz, T, _, h, _ => by simp at h
  | x :: r, H, 0, B, g, sz, T, h, _, hB => by
    have h : AV.refFree x = true ∧ AV.refFreeL r = true := by simpa [AV.refFreeL] using h
    simp [frzEls, frz_row hB, frzEls_free h.2]
  | x :: r, H, j + 1, B, g, sz, T, h, hl, hB => by
    have h : AV.refFree x = true ∧ AV.refFreeL r = true := by simpa [AV.refFreeL] using h
    have hx : pFrz 0 x H = (x, H) := by simp [pFrz, h.1]
    simp [frzEls, hx, frzEls_set h.2 (by simpa using hl) hB]
theorem one_set {l : List AV} {j : Nat} {v : AV} (h : ∀ e ∈ l, AV.one e = true) (hv : AV.one v = true) : (l.set j v).all AV.one = true := by
  rw [List.all_eq_true]
  intro e he
  rcases List.mem_or_eq_of_mem_set he with he | rfl
  · exact h e he
  · exact hv
theorem freeL_set {l : List AV} {j : Nat} {v : AV} (h : AV.refFreeL l = true) (hv : v.refFree = true) : AV.refFreeL (l.set j v) = true := by
  rw [AV.refFreeL_iff] at h ⊢
  intro e he
  rcases List.mem_or_eq_of_mem_set he with he | rfl
  · exact h e he
  · exact hv
theorem frzRow_set {l : List AV} {H : Heap} {j B g sz : Nat} {p : Bool} {T : List AV} (hl : AV.refFreeL l = true) (ho : ∀ e ∈ l, AV.one e = true) (hj : j < l.length) (hB0 : B ≠ 0) (h0 : H.get 0 = some (.sl 0 1 p (l.set j (.hs B g)))) (hB : H.get B = some (.sl g sz true T)) :
    frzRow 0 (.hs 0 0) H = (H.drop [B]).put 0 (.sl 0 1 true (l.set j (.vs T))) := by
  have hne : (l.set j (.hs B g)).isEmpty = false := by
    cases l with
    | nil => simp at hj
    | cons a r => cases j <;> rfl
  have hd : (H.drop [B]).get 0 = some (.sl 0 1 p (l.set j (.hs B g))) := by rw [get_drop1, if_neg (Ne.symm hB0)]; exact h0
  simp only [frzRow, h0, frzEls_set hl hj hB, hd, hne, one_set ho one_hs, one_set ho one_vs, freeL_set hl free_vs]
  rfl
end Go.Am
namespace Go.Proofs.Ytbkifahfbcalaaa
open Go.Am Go.Stk
variable {h : CallFn}

/-- the table, with the rows from c on made -/
def esC (N L E M c : Nat) : List AV := (List.range (M + 1)).map fun q => if c ≤ q then .vs (tabT N L E (M - q) q) else .nils
theorem esC_length {N L E M c : Nat} : (esC N L E M c).length = M + 1 := by simp [esC]
theorem esC_get {N L E M c q : Nat} (hq : q ≤ M) : (esC N L E M c)[q]? = some (if c ≤ q then .vs (tabT N L E (M - q) q) else .nils) := by
  simp [esC, show q < M + 1 by omega]
theorem esC_top {N L E M : Nat} : List.replicate (M + 1) AV.nils = esC N L E M (M + 1) := by
  apply List.ext_getElem?
  intro q
  by_cases hq : q ≤ M
  · rw [esC_get hq, if_neg (by omega)]; simp [show q < M + 1 by omega]
  · rw [List.getElem?_eq_none (by simp; omega), List.getElem?_eq_none (by rw [esC_length]; omega)]
theorem esC_free {N L E M c : Nat} : AV.refFreeL (esC N L E M c) = true := by
  rw [AV.refFreeL_iff]
  intro e he
  simp only [esC, List.mem_map] at he
  obtain ⟨q, _, rfl⟩ := he
  split <;> simp
theorem esC_one {N L E M c : Nat} : ∀ e ∈ esC N L E M c, AV.one e = true := by
  intro e he
  simp only [esC, List.mem_map] at he
  obtain ⟨q, _, rfl⟩ := he
  split <;> simp
theorem esC_set {N L E M j : Nat} (hj : j ≤ M) : (esC N L E M (j + 1)).set j (.vs (tabT N L E (M - j) j)) = esC N L E M j := by
  apply List.ext_getElem?
  intro q
  by_cases hq : q ≤ M
  · by_cases e : j = q
    · subst e
      rw [List.getElem?_set_self (by rw [esC_length]; omega), esC_get hq, if_pos (Nat.le_refl _)]
    · rw [List.getElem?_set_ne e, esC_get hq, esC_get hq]
      by_cases hc : j ≤ q
      · rw [if_pos (by omega), if_pos hc]
      · rw [if_neg (by omega), if_neg hc]
  · rw [List.getElem?_eq_none (by simp [esC_length]; omega), List.getElem?_eq_none (by rw [esC_length]; omega)]
theorem esC_es0 {N L E M j : Nat} (hj : j ≤ M) : Es0 (esC N L E M (j + 1)) j where
  f := esC_free
  o := by
    intro e he
    simp only [esC, List.mem_map] at he
    obtain ⟨q, _, rfl⟩ := he
    split <;> simp
  j := by rw [esC_get hj, if_neg (by omega)]

def jKeep : List Bool := [false, true, true, false, true, true, false, false, false, false, false, false, false, false, false, false, false]
def jFr (N L E M : Nat) (j : Int) (x0 x4 x7 x8 x9 x10 x16 x21 x22 x23 x36 x41 x82 : AV) : List AV := [x0, .int .i64 M, .ip [.int .i64 N, .int .i64 L, .int .i64 E] 0, x4, .hs 0 0, .int .i64 j, x7, x8, x9, x10, x16, x21, x22, x23, x36, x41, x82]
theorem jcanon {es : List AV} {H : Heap} {fr : List AV} (h0 : H.get 0 = some (.sl 0 1 true es)) (ho : H.outer = []) (hf : AV.refsL (mask fr jKeep) = [0]) (hn : ∀ f : Nat → Nat → Option (Nat × Nat), f 0 0 = some (0, 0) → AV.renL f (mask fr jKeep) = mask fr jKeep) :
    canon true 0 jKeep fr H = (mask fr jKeep, ⟨1, [(0, .sl 0 1 true es)], []⟩) := by
  have hreach := reached_1 hf h0 rfl
  have hidx : toIdx H [0] (freshBut 0) 0 0 = some (0, 0) := by unfold toIdx; rw [h0]; rfl
  have hp : pack H [0] (freshBut 0) = [.sl 0 1 true es] := by
    simp only [pack, List.filterMap_cons, List.filterMap_nil, h0, Option.map_some]
    simp [ABlk.ren, freshBut]
  rw [canon_of hreach hp rfl rfl ho (hn _ hidx)]
  rfl
theorem pre4 (x0 x1 x2 x4 x5 x6 x7 x8 x9 x10 x16 x21 x22 x23 x36 x41 x82 : AV) (H : Heap) : frzSlots 0 an74.pos [1000005] [x0, x1, x2, x4, x5, x6, x7, x8, x9, x10, x16, x21, x22, x23, x36, x41, x82] H = ([x0, x1, x2, x4, x5, x6, x7, x8, x9, x10, x16, x21, x22, x23, x36, x41, x82], frzRow 0 x5 H) := by kernel_rfl
theorem pre20 (x0 x1 x2 x4 x5 x6 x7 x8 x9 x10 x16 x21 x22 x23 x36 x41 x82 : AV) (H : Heap) : frzSlots 0 an74.pos [5] [x0, x1, x2, x4, x5, x6, x7, x8, x9, x10, x16, x21, x22, x23, x36, x41, x82] H = ([x0, x1, x2, x4, (pFrz 0 x5 H).1, x6, x7, x8, x9, x10, x16, x21, x22, x23, x36, x41, x82], (pFrz 0 x5 H).2) := by kernel_rfl
theorem jbody_end {N L E M : Nat} {j : Int} {HM : Heap} (c1 : j < 0) (f : Nat) :
    bodyOf h an74 c74_9 f (jFr N L E M j .undef .undef .undef .undef .undef .undef .undef .undef .undef .undef .undef .undef .undef) HM = some (.exit 0, jFr N L E M j .undef .undef .undef .undef .undef .undef (.bool false) .undef .undef .undef .undef .undef .undef, HM) := by
  simp [-Option.bind_some, jFr, c74_9_run, c74_10_run, c74_11_run, c74_12_run, c74_13_run, c74_14_run, c74_15_run, seqX, show ¬ 0 ≤ j by omega, -Option.some.injEq]
theorem jbody_step {N L E M j : Nat} {j1 y : Int} {HM H2 H3 : Heap} {y0 y4 y7 y8 y9 y10 y16 y23 y36 y41 y82 : AV} (f : Nat) (w1 : IntKind.i64.wrap ((N : Int) + 1) = (N : Int) + 1) (w2 : IntKind.i64.wrap ((j : Int) - 1) = j1)
    (hl : loopU (bodyOf h an74 c74_21 f) true 0 uKeep f (uFr N L E M j ((0 : Nat) : Int) .undef .undef .undef .undef .undef .undef (.bool true) .undef .undef .undef .undef) HM = some (.exit 2, uFr N L E M j y y0 y4 y7 y8 y9 y10 y16 y23 y36 y41 y82, H2))
    (hfz : frzRow 0 (.hs 0 0) H2 = H3) :
    bodyOf h an74 c74_9 f (jFr N L E M j .undef .undef .undef .undef .undef .undef .undef .undef .undef .undef .undef .undef .undef) HM = some (.normal, jFr N L E M j1 y0 y4 y7 y8 y9 y10 y16 (.int .i64 ((N : Int) + 1)) (.int .i64 y) y23 y36 y41 y82, H3) := by
  simp only [uKeep, uFr, Int.natCast_zero] at hl
  simp [-Option.bind_some, jFr, c74_9_run, c74_10_run, c74_11_run, c74_12_run, c74_13_run, c74_14_run, c74_15_run, c74_16_run, c74_17_run, c74_18_run, c74_19_run, c74_20_run, seqX, blockX, w1, hl, c74_71_chain, c74_71_run, pre4, hfz, w2, -Option.some.injEq]
theorem jloop (hh : Hk h) {N L E M : Nat} (hN : N ≤ 200) (hL : L ≤ 200) (hEb : E ≤ 200) (hM : M ≤ 201) :
    ∀ (c : Nat), c ≤ M + 1 → ∀ (x0 x4 x7 x8 x9 x10 x16 x21 x22 x23 x36 x41 x82 : AV) (H : Heap), H.get 0 = some (.sl 0 1 true (esC N L E M c)) → H.outer = [] →
      LoopQ (bodyOf h an74 c74_9) jKeep (jFr N L E M ((c : Int) - 1) x0 x4 x7 x8 x9 x10 x16 x21 x22 x23 x36 x41 x82) H
        fun ex fr' H' => ex = .exit 0 ∧ H'.get 0 = some (.sl 0 1 true (esC N L E M 0)) ∧ H'.outer = [] ∧ ∃ (y : Int) (y0 y4 y7 y8 y9 y10 y16 y21 y22 y23 y36 y41 y82 : AV), fr' = jFr N L E M y y0 y4 y7 y8 y9 y10 y16 y21 y22 y23 y36 y41 y82 := by
  intro c
  induction c with
  | zero =>
    intro hc x0 x4 x7 x8 x9 x10 x16 x21 x22 x23 x36 x41 x82 H h0 ho
    have hcan := jcanon (fr := jFr N L E M (((0 : Nat) : Int) - 1) x0 x4 x7 x8 x9 x10 x16 x21 x22 x23 x36 x41 x82) h0 ho (by simp [jFr, jKeep, AV.refsL, AV.refs]) (fun f f0 => by simp [jFr, jKeep, AV.renL, AV.ren, f0])
    exact LoopQ.exit 0 hcan (fun f _ => jbody_end (by omega) f) (by simp) ⟨rfl, rfl, rfl, _, _, _, _, _, _, _, _, _, _, _, _, _, _, rfl⟩
  | succ j ih =>
    intro hc x0 x4 x7 x8 x9 x10 x16 x21 x22 x23 x36 x41 x82 H h0 ho
    have hjM : j ≤ M := by omega
    have e1 : ((j + 1 : Nat) : Int) - 1 = j := by omega
    rw [e1]
    have hcan := jcanon (fr := jFr N L E M j x0 x4 x7 x8 x9 x10 x16 x21 x22 x23 x36 x41 x82) h0 ho (by simp [jFr, jKeep, AV.refsL, AV.refs]) (fun f f0 => by simp [jFr, jKeep, AV.renL, AV.ren, f0])
    have w1 : IntKind.i64.wrap ((N : Int) + 1) = (N : Int) + 1 := wrap_i64 (by omega) (by omega)
    have w2 : IntKind.i64.wrap ((j : Int) - 1) = (j : Int) - 1 := wrap_i64 (by omega) (by omega)
    have hE := esC_es0 (N := N) (L := L) (E := E) hjM
    have he : j < M → (esC N L E M (j + 1))[j + 1]? = some (.vs (tabT N L E (M - j - 1) (j + 1))) := fun hj => by
      rw [esC_get (by omega), if_pos (Nat.le_refl _), Nat.sub_sub]
    obtain ⟨ex, fr', H2, ⟨K, hl⟩, rfl, hU, y, y0, y4, y7, y8, y9, y10, y16, y23, y36, y41, y82, rfl⟩ := uloop hh hN hL hEb hM hjM hE he (N + 1) 0 (by omega) (by omega) .undef .undef .undef .undef .undef .undef (.bool true) .undef .undef .undef .undef ⟨1, [(0, .sl 0 1 true (esC N L E M (j + 1)))], []⟩ ⟨.inl ⟨rfl, rfl⟩, rfl⟩
    rcases hU.c with ⟨hbad, _⟩ | ⟨_, B, g, hB, g0, gB⟩
    · omega
    · rw [List.take_of_length_le (by rw [tabT_length]; omega)] at gB
      have hfz := frzRow_set esC_free esC_one hE.lt hB g0 gB
      rw [esC_set hjM] at hfz
      exact LoopQ.step K hcan (fun f hf => jbody_step f w1 w2 (hl f hf f hf) hfz) (ih (by omega) _ _ _ _ _ _ _ _ _ _ _ _ _ _ (by rw [get_put, if_pos rfl]) (by rw [outer_put]; exact hU.o))
/-- can -/
theorem can_con (hh : Hk h) {N L E M : Nat} (hN : N ≤ 200) (hL : L ≤ 200) (hEb : E ≤ 200) (hM : M ≤ 201) : Con h 74 [stackV N L E, .int .i64 M] (.vs (esC N L E M 0)) := by
  obtain ⟨ex, fr', H2, ⟨K, hl⟩, rfl, g0, ho, y, y0, y4, y7, y8, y9, y10, y16, y21, y22, y23, y36, y41, y82, rfl⟩ := jloop hh hN hL hEb hM (M + 1) (Nat.le_refl _) (stackV N L E) .nils .undef .undef .undef .undef .undef .undef .undef .undef .undef .undef .undef ((⟨0, [], []⟩ : Heap).put 0 (.sl 0 1 true (List.replicate (M + 1) .nils))) (by rw [get_put, if_pos rfl, esC_top]) rfl
  have e1 : ((M + 1 : Nat) : Int) - 1 = M := by omega
  rw [e1] at hl
  obtain ⟨n1, hn1⟩ : ∃ n1, n1 = M + 1 := ⟨_, rfl⟩
  rw [← hn1] at hl
  have w1 : IntKind.i64.wrap ((M : Int) + 1) = n1 := by rw [wrap_i64 (by omega) (by omega)]; omega
  have hmk := make149 (n := n1) (by omega)
  have hfz := frz_row g0
  refine .of K fun k hk => ?_
  have hlk := hl k hk k hk
  simp only [jFr, jKeep, stackV] at hlk
  rw [stackV, f74_eq (hh _ _ _ (by decide))]
  simp [-Option.bind_some, f74_fin_normal, f74_fin_ret, c74_0_run, c74_1_run, c74_2_run, c74_3_run, c74_4_run, c74_5_run, c74_6_run, c74_7_run, c74_8_run, seqX, blockX, pBox, AV.okElem, w1, hmk, hlk, c74_72_run, c74_73_chain, c74_73_run, c74_74_run, pre20, hfz, aret_free, -Option.some.injEq]
  exact ho
end Go.Proofs.Ytbkifahfbcalaaa
