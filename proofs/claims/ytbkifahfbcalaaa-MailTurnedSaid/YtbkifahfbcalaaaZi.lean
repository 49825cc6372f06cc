/-
  MAIL: contracts: Turns. Own work.
  MAIL: contracts: Turns: the outer loop. Own work.
  MAIL: contracts: Turns. Own work.
-/
import Derived.Test.YtbkifahfbcalaaaZh
set_option linter.unusedSimpArgs false
set_option linter.unusedVariables false
namespace Go.Proofs.Ytbkifahfbcalaaa
open Go.Am Go.Stk
variable {h : CallFn}

def iKeep : List Bool := [false, true, false, false, false, false, true, false, true, true, true, true, true, true, false, false, false, false]
def oKeep : List Bool := [false, true, false, false, false, false, true, false, true, true, true, true, false, false, false, false, false, false]
theorem rcanon {es : List AV} {B g : Nat} {H : Heap} {keep : List Bool} {fr fr' : List AV} (h0 : H.get B = some (.sl g 1 true es)) (ho : H.outer = []) (hf : AV.refsL (mask fr keep) = [B]) (hn : ∀ f : Nat → Nat → Option (Nat × Nat), f B g = some (0, 0) → AV.renL f (mask fr keep) = fr') :
    canon true 0 keep fr H = (fr', ⟨1, [(0, .sl 0 1 true es)], []⟩) := by
  have hreach := reached_b hf h0 rfl
  have hidx : toIdx H [B] (freshBut 0) B g = some (0, 0) := by
    have hi : ([B] : List Nat).idxOf? B = some 0 := by simp [List.idxOf?, List.findIdx?_cons]
    unfold toIdx; rw [h0, hi]; simp [freshBut]
  have hp : pack H [B] (freshBut 0) = [.sl 0 1 true es] := by
    simp only [pack, List.filterMap_cons, List.filterMap_nil, h0, Option.map_some]
    simp [ABlk.ren, freshBut]
  rw [canon_of hreach hp rfl rfl ho (hn _ hidx)]
  rfl
/-- the frame of both loops -/
def tFr (L : Nat) (M : Nat) (es : List AV) (row : AV) (u : Nat) (x : Int) (x15 x16 : AV) (x0 x2 x6 x7 x8 x10 x31 x42 x49 x79 : AV) : List AV := [x0, .int .i64 L, x2, x6, x7, x8, .int .i64 M, x10, .vs es, row, .int .i64 u, .int .i64 x, x15, x16, x31, x42, x49, x79]
section inner
variable {L M u j k k1 uk j1 lx : Nat} {x y : Int} {es T R : List AV} {HM : Heap} {nv : Bool}
theorem ibody_far (hh : Hk h) (f : Nat) (w1 : IntKind.i64.wrap ((k : Int) + 1) = k1)
    (e1 : acall Try.prog annOf h f 71 [.int .i64 x, .int .i64 k, .int .i64 j] [] = some (.int .i64 y, [])) (e2 : acall Try.prog annOf h f 72 [.int .i64 y, .int .i64 L] [] = some (.bool false, [])) :
    bodyOf h an25 c25_46 f (tFr L M es (.hs 0 0) u x (.int .i64 j) (.int .i64 k) .undef .undef .undef .undef .undef .undef .undef .undef .undef .undef) HM = some (.normal, tFr L M es (.hs 0 0) u x (.int .i64 j) (.int .i64 k1) .undef .undef .undef .undef .undef .undef .undef .undef .undef (.bool true), HM.atLeast (HM.next + 224)) := by
  simp [-Option.bind_some, tFr, c25_46_run, c25_47_run, c25_48_k1, c25_48_k2, c25_48_k3, c25_48_k4, c25_48_k5, c25_48_run, c25_49_run, c25_50_run, c25_51_run, c25_52_run, c25_53_run, seqX, blockX, w1, pCall_free, e1, e2, okp_ok, okPair, disj, -Option.some.injEq, -Int.natCast_add]
theorem ibody_near (hh : Hk h) (f : Nat) (w1 : IntKind.i64.wrap ((k : Int) + 1) = k1) (w2 : IntKind.i64.wrap ((j : Int) + 1) = j1) (w3 : IntKind.i64.wrap ((u : Int) + k) = uk) (w4 : IntKind.i64.wrap (y + L) = lx)
    (e1 : acall Try.prog annOf h f 71 [.int .i64 x, .int .i64 k, .int .i64 j] [] = some (.int .i64 y, [])) (e2 : acall Try.prog annOf h f 72 [.int .i64 y, .int .i64 L] [] = some (.bool true, []))
    (a1 : pIndexAddr Try.prog 149 (.vs es) (.int .i64 j1) HM = some (.ip [.vs T] 0)) (a3 : pIndexAddr Try.prog 151 (.vs T) (.int .i64 uk) HM = some (.ip [.vs R] 0)) (a4 : pIndexAddr Try.prog 42 (.vs R) (.int .i64 lx) HM = some (.ip [.bool nv] 0)) :
    bodyOf h an25 c25_46 f (tFr L M es (.hs 0 0) u x (.int .i64 j) (.int .i64 k) .undef .undef .undef .undef .undef .undef .undef .undef .undef .undef) HM =
      if nv then some (.exit 2, tFr L M es (.hs 0 0) u x (.int .i64 j) (.int .i64 k) .undef .undef .undef .undef .undef .undef .undef .undef .undef (.bool false), HM.atLeast (HM.next + 224))
      else some (.normal, tFr L M es (.hs 0 0) u x (.int .i64 j) (.int .i64 k1) .undef .undef .undef .undef .undef .undef .undef .undef .undef (.bool true), HM.atLeast (HM.next + 224)) := by
  cases nv <;> simp [-Option.bind_some, tFr, c25_46_run, c25_47_run, c25_48_k1, c25_48_k2, c25_48_k3, c25_48_k4, c25_48_k5, c25_48_run, c25_49_run, c25_50_run, c25_51_run, c25_52_run, c25_53_run, seqX, blockX, w1, w2, w3, w4, pCall_free, e1, e2, a1, a3, a4, okp_ok, okPair, disj, -Option.some.injEq, -Int.natCast_add]
end inner
/-- a layer that will do -/
def Good (N L E r j u : Nat) (x : Int) (q : Nat) : Prop := (-(L : Int) ≤ ln x q j ∧ ln x q j ≤ L) ∧ fits N L E r (j + 1) ((u : Int) + q) (ln x q j) = true
theorem ibody (hh : Hk h) {N L E M j u k : Nat} {x : Int} {HM : Heap} (hN : N ≤ 200) (hL : L ≤ 200) (hM : M ≤ 201) (hj : j < M) (hx : -(L : Int) ≤ x ∧ x ≤ L) (hk : 1 ≤ k) (hku : u + k ≤ N) :
    (Good N L E (M - j - 1) j u x k → ∃ K, ∀ f, K ≤ f → bodyOf h an25 c25_46 f (tFr L M (esC N L E M 0) (.hs 0 0) u x (.int .i64 j) (.int .i64 k) .undef .undef .undef .undef .undef .undef .undef .undef .undef .undef) HM = some (.exit 2, tFr L M (esC N L E M 0) (.hs 0 0) u x (.int .i64 j) (.int .i64 k) .undef .undef .undef .undef .undef .undef .undef .undef .undef (.bool false), HM.atLeast (HM.next + 224))) ∧
    (¬ Good N L E (M - j - 1) j u x k → ∃ K, ∀ f, K ≤ f → bodyOf h an25 c25_46 f (tFr L M (esC N L E M 0) (.hs 0 0) u x (.int .i64 j) (.int .i64 k) .undef .undef .undef .undef .undef .undef .undef .undef .undef .undef) HM = some (.normal, tFr L M (esC N L E M 0) (.hs 0 0) u x (.int .i64 j) (.int .i64 ((k + 1 : Nat) : Int)) .undef .undef .undef .undef .undef .undef .undef .undef .undef (.bool true), HM.atLeast (HM.next + 224))) := by
  obtain ⟨K2, hln⟩ := lean_con hh x k j (by omega) (by omega) (by omega) (by omega)
  rw [leanF_ln] at hln
  have hlb : -1000 ≤ ln x k j ∧ ln x k j ≤ 1000 := by unfold ln; split <;> omega
  obtain ⟨K3, hkp⟩ := keeps_con hh (ln x k j) L (by omega) (by omega)
  have w1 : IntKind.i64.wrap ((k : Int) + 1) = ((k + 1 : Nat) : Int) := by rw [wrap_i64 (by omega) (by omega)]; omega
  by_cases c2 : -(L : Int) ≤ ln x k j ∧ ln x k j ≤ L
  · have c2' : (decide (-(L : Int) ≤ ln x k j) && decide (ln x k j ≤ L)) = true := by simp [c2]
    rw [c2'] at hkp
    obtain ⟨lx, hlx⟩ : ∃ lx : Nat, (lx : Int) = ln x k j + L := ⟨(ln x k j + L).toNat, by omega⟩
    have w2 : IntKind.i64.wrap ((j : Int) + 1) = ((j + 1 : Nat) : Int) := by rw [wrap_i64 (by omega) (by omega)]; omega
    have w3 : IntKind.i64.wrap ((u : Int) + k) = ((u + k : Nat) : Int) := by rw [wrap_i64 (by omega) (by omega)]; omega
    have w4 : IntKind.i64.wrap (ln x k j + L) = lx := by rw [wrap_i64 (by omega) (by omega)]; omega
    have a1 : pIndexAddr Try.prog 149 (.vs (esC N L E M 0)) (.int .i64 ((j + 1 : Nat) : Int)) HM = some (.ip [.vs (tabT N L E (M - (j + 1)) (j + 1))] 0) := by
      rw [idx149_vs (esC_get (by omega)) (by simp)]; simp
    have a3 : pIndexAddr Try.prog 151 (.vs (tabT N L E (M - (j + 1)) (j + 1))) (.int .i64 ((u + k : Nat) : Int)) HM = some (.ip [.vs (bools (rowT N L E (M - (j + 1)) (j + 1) (u + k)))] 0) := by
      rw [idx151_vs (tabT_get (by omega)) (by simp)]; simp
    obtain ⟨nv, hnv⟩ : ∃ nv, nv = fits N L E (M - j - 1) (j + 1) ((u : Int) + k) (ln x k j) := ⟨_, rfl⟩
    have hrx : (bools (rowT N L E (M - (j + 1)) (j + 1) (u + k)))[lx]? = some (.bool nv) := by
      rw [bools_get, rowT_get (by omega), hlx, hnv, Nat.sub_sub, Int.natCast_add]; simp
    have a4 : pIndexAddr Try.prog 42 (.vs (bools (rowT N L E (M - (j + 1)) (j + 1) (u + k)))) (.int .i64 lx) HM = some (.ip [.bool nv] 0) := by
      rw [idx42_vs hrx (by simp)]; simp
    have hG : Good N L E (M - j - 1) j u x k ↔ nv = true := by rw [hnv]; simp [Good, c2]
    refine ⟨fun hg => ⟨max K2 K3, fun f hf => ?_⟩, fun hg => ⟨max K2 K3, fun f hf => ?_⟩⟩
    · rw [ibody_near hh f w1 w2 w3 w4 (hln f (by omega)) (hkp f (by omega)) a1 a3 a4, if_pos (hG.1 hg)]
    · rw [ibody_near hh f w1 w2 w3 w4 (hln f (by omega)) (hkp f (by omega)) a1 a3 a4, if_neg (fun hv => hg (hG.2 hv))]
  · have c2' : (decide (-(L : Int) ≤ ln x k j) && decide (ln x k j ≤ L)) = false := by
      simp only [Bool.and_eq_false_iff, decide_eq_false_iff_not]; omega
    rw [c2'] at hkp
    refine ⟨fun hg => absurd hg.1 c2, fun hg => ⟨max K2 K3, fun f hf => ?_⟩⟩
    exact ibody_far hh f w1 (hln f (by omega)) (hkp f (by omega))
theorem iloop (hh : Hk h) {N L E M j u : Nat} {x : Int} {s : List Int} (hN : N ≤ 200) (hL : L ≤ 200) (hM : M ≤ 201) (hj : j < M) (hx : -(L : Int) ≤ x ∧ x ≤ L) {k0 : Nat} (hk0 : Good N L E (M - j - 1) j u x k0) (hk0u : u + k0 ≤ N) :
    ∀ (d k : Nat), k0 - k = d → 1 ≤ k → k ≤ k0 → (∀ q, 1 ≤ q → q < k → ¬ Good N L E (M - j - 1) j u x q) → ∀ (x0 x2 x6 x7 x8 x10 x31 x42 x49 x79 : AV) (H : Heap), H.get 0 = some (.sl 0 1 true (ints s)) → H.outer = [] →
      LoopQ (bodyOf h an25 c25_46) iKeep (tFr L M (esC N L E M 0) (.hs 0 0) u x (.int .i64 j) (.int .i64 k) x0 x2 x6 x7 x8 x10 x31 x42 x49 x79) H
        fun ex fr' H' => ex = .exit 2 ∧ H'.get 0 = some (.sl 0 1 true (ints s)) ∧ H'.outer = [] ∧ ∃ k' : Nat, 1 ≤ k' ∧ u + k' ≤ N ∧ Good N L E (M - j - 1) j u x k' ∧ (∀ q, 1 ≤ q → q < k' → ¬ Good N L E (M - j - 1) j u x q) ∧
          ∃ (y0 y2 y6 y7 y8 y10 y31 y42 y49 y79 : AV), fr' = tFr L M (esC N L E M 0) (.hs 0 0) u x (.int .i64 j) (.int .i64 k') y0 y2 y6 y7 y8 y10 y31 y42 y49 y79 := by
  intro d
  induction d with
  | zero =>
    intro k hd hk1 hk2 hlo x0 x2 x6 x7 x8 x10 x31 x42 x49 x79 H h0 ho
    have hcan := rcanon (keep := iKeep) (fr := tFr L M (esC N L E M 0) (.hs 0 0) u x (.int .i64 j) (.int .i64 k) x0 x2 x6 x7 x8 x10 x31 x42 x49 x79) (fr' := tFr L M (esC N L E M 0) (.hs 0 0) u x (.int .i64 j) (.int .i64 k) .undef .undef .undef .undef .undef .undef .undef .undef .undef .undef) h0 ho (by simp [tFr, iKeep, AV.refsL, AV.refs]) (fun f f0 => by simp [tFr, iKeep, AV.renL, AV.ren, f0])
    have hkk : k = k0 := by omega
    subst hkk
    obtain ⟨K, hb⟩ := (ibody hh (E := E) (HM := ⟨1, [(0, .sl 0 1 true (ints s))], []⟩) hN hL hM hj hx hk1 hk0u).1 hk0
    exact LoopQ.exit K hcan hb (by simp) ⟨rfl, rfl, rfl, k, hk1, hk0u, hk0, hlo, _, _, _, _, _, _, _, _, _, _, rfl⟩
  | succ d ih =>
    intro k hd hk1 hk2 hlo x0 x2 x6 x7 x8 x10 x31 x42 x49 x79 H h0 ho
    have hcan := rcanon (keep := iKeep) (fr := tFr L M (esC N L E M 0) (.hs 0 0) u x (.int .i64 j) (.int .i64 k) x0 x2 x6 x7 x8 x10 x31 x42 x49 x79) (fr' := tFr L M (esC N L E M 0) (.hs 0 0) u x (.int .i64 j) (.int .i64 k) .undef .undef .undef .undef .undef .undef .undef .undef .undef .undef) h0 ho (by simp [tFr, iKeep, AV.refsL, AV.refs]) (fun f f0 => by simp [tFr, iKeep, AV.renL, AV.ren, f0])
    have hib := ibody hh (E := E) (HM := ⟨1, [(0, .sl 0 1 true (ints s))], []⟩) hN hL hM hj hx hk1 (show u + k ≤ N by omega)
    by_cases hg : Good N L E (M - j - 1) j u x k
    · obtain ⟨K, hb⟩ := hib.1 hg
      exact LoopQ.exit K hcan hb (by simp) ⟨rfl, rfl, rfl, k, hk1, by omega, hg, hlo, _, _, _, _, _, _, _, _, _, _, rfl⟩
    · obtain ⟨K, hb⟩ := hib.2 hg
      refine LoopQ.step K hcan hb (ih (k + 1) (by omega) (by omega) (by omega) (fun q hq1 hq2 => ?_) _ _ _ _ _ _ _ _ _ _ _ rfl rfl)
      by_cases e : q = k
      · subst e; exact hg
      · exact hlo q hq1 (by omega)
end Go.Proofs.Ytbkifahfbcalaaa
namespace Go.Proofs.Ytbkifahfbcalaaa
open Go.Am Go.Stk
variable {h : CallFn}

theorem lit22 {k : IntKind} {n : Int} : pLit Try.prog 22 1 [(0, .int k n)] = some (1, [.int k n]) := by kernel_rfl
section outer
variable {L M u j k uk : Nat} {x y : Int} {es : List AV} {HM H2 H3 : Heap}
theorem obody_end (f : Nat) (a0 : pLen Try.prog 22 (.hs 0 0) HM = some (.int .i64 M)) :
    bodyOf h an25 c25_34 f (tFr L M es (.hs 0 0) u x .undef .undef .undef .undef .undef .undef .undef .undef .undef .undef .undef .undef) HM = some (.exit 0, tFr L M es (.hs 0 0) u x .undef .undef .undef .undef .undef .undef .undef .undef .undef .undef (.bool true) .undef, HM) := by
  simp [-Option.bind_some, tFr, c25_34_run, c25_35_run, c25_36_run, c25_37_run, c25_38_run, c25_39_run, c25_40_run, c25_41_run, seqX, blockX, a0, -Option.some.injEq]
theorem obody_step (f : Nat) {y0 y2 y6 y7 y8 y10 y31 y42 y49 y79 : AV} (a0 : pLen Try.prog 22 (.hs 0 0) HM = some (.int .i64 j)) (hj : ¬ (j : Int) = M)
    (hl : loopU (bodyOf h an25 c25_46 f) true 0 iKeep f (tFr L M es (.hs 0 0) u x (.int .i64 j) (.int .i64 ((1 : Nat) : Int)) .undef .undef .undef .undef .undef .undef .undef .undef (.bool false) .undef) HM = some (.exit 2, tFr L M es (.hs 0 0) u x (.int .i64 j) (.int .i64 k) y0 y2 y6 y7 y8 y10 y31 y42 y49 y79, H2))
    (a1 : pAppend Try.prog 22 22 (.hs 0 0) (.vs [.int .i64 k]) H2.next H2 = some (.hs 0 1, H3)) (w3 : IntKind.i64.wrap ((u : Int) + k) = uk)
    (e1 : acall Try.prog annOf h f 71 [.int .i64 x, .int .i64 k, .int .i64 j] [] = some (.int .i64 y, [])) :
    bodyOf h an25 c25_34 f (tFr L M es (.hs 0 0) u x .undef .undef .undef .undef .undef .undef .undef .undef .undef .undef .undef .undef) HM = some (.normal, tFr L M es (.hs 0 1) uk y (.int .i64 j) (.int .i64 k) y0 y2 y6 y7 y8 y10 y31 y42 y49 y79, H3) := by
  have hrow : pRow 0 1 [.int .i64 (k : Int)] H2.next H2 = (.vs [.int .i64 k], H2) := by simp [pRow, AV.okElem]
  simp only [tFr, iKeep] at hl
  have h1 : ((1 : Nat) : Int) = 1 := rfl
  rw [h1] at hl
  simp [-Option.bind_some, tFr, c25_34_run, c25_35_run, c25_36_run, c25_37_run, c25_38_run, c25_39_run, c25_40_run, c25_41_run, c25_42_run, c25_43_run, c25_44_run, c25_45_run, c25_54_run, c25_55_run, c25_56_k1, c25_56_run, seqX, blockX, a0, hj, hl, lit22, hrow, a1, w3, e1, pCall_free, -Option.some.injEq]
end outer
theorem oloop (hh : Hk h) {N L E M : Nat} (hN : N ≤ 200) (hL : L ≤ 200) (hM : M ≤ 201) :
    ∀ (d j u : Nat) (x : Int) (s : List Int), M - j = d → j ≤ M → s.length = j → u ≤ N → -(L : Int) ≤ x ∧ x ≤ L → fits N L E d j u x = true → ∀ (B g : Nat) (x15 x16 x0 x2 x6 x7 x8 x10 x31 x42 x49 x79 : AV) (H : Heap), H.get B = some (.sl g 1 true (ints s)) → H.outer = [] →
      LoopQ (bodyOf h an25 c25_34) oKeep (tFr L M (esC N L E M 0) (.hs B g) u x x15 x16 x0 x2 x6 x7 x8 x10 x31 x42 x49 x79) H
        fun ex fr' H' => ex = .exit 0 ∧ H'.outer = [] ∧ ∃ t : List Int, Greedy N L E d j u x t ∧ H'.get 0 = some (.sl 0 1 true (ints (s ++ t))) ∧
          ∃ (u' : Nat) (x' : Int) (y15 y16 y0 y2 y6 y7 y8 y10 y31 y42 y49 y79 : AV), fr' = tFr L M (esC N L E M 0) (.hs 0 0) u' x' y15 y16 y0 y2 y6 y7 y8 y10 y31 y42 y49 y79 := by
  intro d
  induction d with
  | zero =>
    intro j u x s hd hj hs hu hx hf B g x15 x16 x0 x2 x6 x7 x8 x10 x31 x42 x49 x79 H h0 ho
    have hcan := rcanon (keep := oKeep) (fr := tFr L M (esC N L E M 0) (.hs B g) u x x15 x16 x0 x2 x6 x7 x8 x10 x31 x42 x49 x79) (fr' := tFr L M (esC N L E M 0) (.hs 0 0) u x .undef .undef .undef .undef .undef .undef .undef .undef .undef .undef .undef .undef) h0 ho (by simp [tFr, oKeep, AV.refsL, AV.refs]) (fun f f0 => by simp [tFr, oKeep, AV.renL, AV.ren, f0])
    have hjM : j = M := by omega
    have a0 : pLen Try.prog 22 (.hs 0 0) ⟨1, [(0, .sl 0 1 true (ints s))], []⟩ = some (.int .i64 M) := by
      rw [len_row und22 (rowOf_hs (by rfl)), ints_length, hs, hjM]
    exact LoopQ.exit 0 hcan (fun f _ => obody_end f a0) (by simp) ⟨rfl, rfl, [], .nil _ _ _, by rw [List.append_nil]; rfl, _, _, _, _, _, _, _, _, _, _, _, _, _, _, rfl⟩
  | succ d ih =>
    intro j u x s hd hj hs hu hx hf B g x15 x16 x0 x2 x6 x7 x8 x10 x31 x42 x49 x79 H h0 ho
    have hcan := rcanon (keep := oKeep) (fr := tFr L M (esC N L E M 0) (.hs B g) u x x15 x16 x0 x2 x6 x7 x8 x10 x31 x42 x49 x79) (fr' := tFr L M (esC N L E M 0) (.hs 0 0) u x .undef .undef .undef .undef .undef .undef .undef .undef .undef .undef .undef .undef) h0 ho (by simp [tFr, oKeep, AV.refsL, AV.refs]) (fun f f0 => by simp [tFr, oKeep, AV.renL, AV.ren, f0])
    have hjM : j < M := by omega
    have a0 : pLen Try.prog 22 (.hs 0 0) ⟨1, [(0, .sl 0 1 true (ints s))], []⟩ = some (.int .i64 j) := by
      rw [len_row und22 (rowOf_hs (by rfl)), ints_length, hs]
    have hd' : M - j - 1 = d := by omega
    obtain ⟨k0, hk1, hk2, hk3, hk4⟩ := fits_succ.1 hf
    have hg0 : Good N L E (M - j - 1) j u x k0 := ⟨hk3, by rw [hd']; exact hk4⟩
    obtain ⟨ex, fr', H2, ⟨K, hl⟩, rfl, g0, go, k, hk1', hku, hgood, hlo, y0, y2, y6, y7, y8, y10, y31, y42, y49, y79, rfl⟩ := iloop hh (s := s) hN hL hM hjM hx hg0 hk2 (k0 - 1) 1 (by omega) (by omega) (by omega) (fun q h1 h2 => by omega) .undef .undef .undef .undef .undef .undef .undef .undef (.bool false) .undef ⟨1, [(0, .sl 0 1 true (ints s))], []⟩ rfl rfl
    have a1 := ap_hs (H := H2) (nid := H2.next) (x := .vs [.int .i64 (k : Int)]) ap22_22 rowOf_vs (by simp [okSrc]) g0 (by simp) (by simp; omega)
    have hint : ints s ++ [.int .i64 (k : Int)] = ints (s ++ [(k : Int)]) := by simp [ints]
    rw [hint] at a1
    have w3 : IntKind.i64.wrap ((u : Int) + k) = ((u + k : Nat) : Int) := by rw [wrap_i64 (by omega) (by omega)]; omega
    obtain ⟨K2, hln⟩ := lean_con hh x k j (by omega) (by omega) (by omega) (by omega)
    rw [leanF_ln] at hln
    have hgf := hgood.2
    rw [hd'] at hgf
    have hf' : fits N L E d (j + 1) ((u + k : Nat) : Int) (ln x k j) = true := by rw [Int.natCast_add]; exact hgf
    obtain ⟨ex, fr', H', hlast, rfl, ho', t, ht, gt, u', x', z⟩ := ih (j + 1) (u + k) (ln x k j) (s ++ [(k : Int)]) (by omega) (by omega) (by simp [hs]) hku hgood.1 hf' 0 1 (.int .i64 j) (.int .i64 k) y0 y2 y6 y7 y8 y10 y31 y42 y49 y79 (H2.put 0 (.sl (0 + 1) 1 (true && AV.refFreeL [.int .i64 (k : Int)]) (ints (s ++ [(k : Int)])))) (by rw [get_put, if_pos rfl]; simp) (by rw [outer_put]; exact go)
    refine ⟨_, fr', H', .step (max K K2) hcan (fun f hf => obody_step f a0 (by omega) (hl f (by omega) f (by omega)) a1 w3 (hln f (by omega))) hlast, rfl, ho', (k : Int) :: t, ?_, by rw [gt]; simp, u', x', z⟩
    refine .cons _ _ _ _ _ _ (by omega) hgood.1.1 hgood.1.2 hgf (fun q hq1 hq2 hbad => ?_) (by rw [Int.natCast_add] at ht; exact ht)
    obtain ⟨q', rfl⟩ : ∃ q' : Nat, q = q' := ⟨q.toNat, by omega⟩
    exact hlo q' (by omega) (by omega) ⟨hbad.1, by rw [hd']; exact hbad.2⟩
end Go.Proofs.Ytbkifahfbcalaaa
namespace Go.Proofs.Ytbkifahfbcalaaa
open Go.Am Go.Stk
variable {h : CallFn}

theorem build146 {a b c : Int} : pBuild Try.prog 146 [(0, .int .i64 a), (1, .int .i64 b), (2, .int .i64 c)] = some (stackV a b c) := by kernel_rfl
theorem zero146 : zero? Try.prog 146 = some (.agg [.int .i64 0, .int .i64 0, .int .i64 0]) := by kernel_rfl
theorem acc22 {nid : Nat} {H : Heap} : accOf Try.prog 22 .nils nid H = some (.hs nid 0, H.put nid (.sl 0 1 true [])) := by kernel_rfl
theorem pre16 (x0 x1 x2 x6 x7 x8 x9 x10 x11 x12 x13 x14 x15 x16 x31 x42 x49 x79 : AV) (H : Heap) : frzSlots 0 an25.pos [12] [x0, x1, x2, x6, x7, x8, x9, x10, x11, x12, x13, x14, x15, x16, x31, x42, x49, x79] H = ([x0, x1, x2, x6, x7, x8, x9, x10, x11, (pFrz 0 x12 H).1, x13, x14, x15, x16, x31, x42, x49, x79], (pFrz 0 x12 H).2) := by kernel_rfl
theorem turns_arg (hh : Hk h) {n L e : Int} (hbad : ¬ ((1 ≤ n ∧ n ≤ 200) ∧ (1 ≤ L ∧ L ≤ n) ∧ (0 ≤ e ∧ e ≤ L))) : Con h 25 [.int .i64 n, .int .i64 L, .int .i64 e] (.tup [.nils, .int .i64 1]) := by
  obtain ⟨K1, h1⟩ := within_con hh n 1 200
  obtain ⟨K2, h2⟩ := within_con hh L 1 n
  obtain ⟨K3, h3⟩ := within_con hh e 0 L
  obtain ⟨p1, hp1⟩ : ∃ p1, p1 = (decide (1 ≤ n) && decide (n ≤ 200)) := ⟨_, rfl⟩
  obtain ⟨p2, hp2⟩ : ∃ p2, p2 = (decide (1 ≤ L) && decide (L ≤ n)) := ⟨_, rfl⟩
  obtain ⟨p3, hp3⟩ : ∃ p3, p3 = (decide (0 ≤ e) && decide (e ≤ L)) := ⟨_, rfl⟩
  have hp : ¬ (p1 = true ∧ p2 = true ∧ p3 = true) := by rw [hp1, hp2, hp3]; simpa using hbad
  rw [← hp1] at h1
  rw [← hp2] at h2
  rw [← hp3] at h3
  refine .of (max K1 (max K2 K3)) fun k hk => ?_
  have e1 := h1 k (by omega)
  have e2 := h2 k (by omega)
  have e3 := h3 k (by omega)
  rw [f25_eq (hh _ _ _ (by decide))]
  cases p1 with
  | false => simp [-Option.bind_some, f25_fin_normal, f25_fin_ret, c25_0_run, c25_1_run, c25_2_run, c25_3_run, c25_4_run, c25_5_k1, c25_5_k2, c25_5_run, c25_6_run, c25_7_run, c25_8_run, c25_9_run, c25_10_run, c25_11_run, seqX, e1, pCall_free, aret_free]
  | true =>
    cases p2 with
    | false => simp [-Option.bind_some, f25_fin_normal, f25_fin_ret, c25_0_run, c25_1_run, c25_2_run, c25_3_run, c25_4_run, c25_5_k1, c25_5_k2, c25_5_run, c25_6_run, c25_7_run, c25_8_run, c25_9_run, c25_10_run, c25_11_run, seqX, e1, e2, pCall_free, aret_free]
    | true =>
      cases p3 with
      | false => simp [-Option.bind_some, f25_fin_normal, f25_fin_ret, c25_0_run, c25_1_run, c25_2_run, c25_3_run, c25_4_run, c25_5_k1, c25_5_k2, c25_5_run, c25_6_run, c25_7_run, c25_8_run, c25_9_run, c25_10_run, c25_11_run, seqX, e1, e2, e3, pCall_free, aret_free]
      | true => simp at hp
theorem store146 {n L e : Int} : ∃ H1 : Heap, pStore Try.prog 146 (.hp 0 0) (stackV n L e) ((⟨0, [], []⟩ : Heap).put 0 (.cells [.int .i64 0, .int .i64 0, .int .i64 0])) = some H1 ∧ H1.get 0 = some (.cells [.int .i64 n, .int .i64 L, .int .i64 e]) ∧ H1.outer = [] := by
  refine ⟨_, st_hp st146_sz (by simp [stackV]) (by simp [stackV]) (by rw [get_put, if_pos rfl]) (by simp), ?_, rfl⟩
  rw [get_put, if_pos rfl]
  simp [stackV, splice]
theorem turns_con (hh : Hk h) {n L e : Int} (hn : 1 ≤ n ∧ n ≤ 200) (hL : 1 ≤ L ∧ L ≤ n) (he : 0 ≤ e ∧ e ≤ L) :
    (endF n e < 0 → Con h 25 [.int .i64 n, .int .i64 L, .int .i64 e] (.tup [.nils, .int .i64 4])) ∧
    (0 ≤ endF n e → ∃ (m : Nat) (t : List Int), m ≤ 200 ∧ LeastM n L e m ∧ Greedy n L e (m + 1) 0 0 0 t ∧ t ≠ [] ∧ Con h 25 [.int .i64 n, .int .i64 L, .int .i64 e] (.tup [.vs (ints t), .int .i64 0])) := by
  obtain ⟨K1, h1⟩ := within_con hh n 1 200
  obtain ⟨K2, h2⟩ := within_con hh L 1 n
  obtain ⟨K3, h3⟩ := within_con hh e 0 L
  rw [show (decide (1 ≤ n) && decide (n ≤ 200)) = true by simp [hn]] at h1
  rw [show (decide (1 ≤ L) && decide (L ≤ n)) = true by simp [hL]] at h2
  rw [show (decide (0 ≤ e) && decide (e ≤ L)) = true by simp [he]] at h3
  obtain ⟨l1, l2⟩ := least_con hh hn.1 hn.2 hL.1 hL.2 he.1 he.2
  obtain ⟨H1, hst, hg, ho⟩ := store146 (n := n) (L := L) (e := e)
  have hld : pLoad Try.prog 146 (.hp 0 0) H1 = some (stackV n L e) := by rw [ld146_hp hg]; simp [stackV]
  have hfr : (stackV n L e).refFree = true := by simp [stackV]
  have hnr : isRow (stackV n L e) = false := by simp [stackV]
  refine ⟨fun hneg => ?_, fun hpos => ?_⟩
  · obtain ⟨K4, h4⟩ := l1 hneg
    refine .of (max (max K1 K2) (max K3 K4)) fun k hk => ?_
    have e1 := h1 k (by omega)
    have e2 := h2 k (by omega)
    have e3 := h3 k (by omega)
    have e4 := h4 k (by omega)
    rw [f25_eq (hh _ _ _ (by decide))]
    simp [-Option.bind_some, f25_fin_normal, f25_fin_ret, c25_0_run, c25_1_run, c25_2_run, c25_3_run, c25_4_run, c25_5_k1, c25_5_k2, c25_5_run, c25_6_run, c25_7_run, c25_8_run, c25_9_run, c25_10_run, c25_11_run, c25_12_run, c25_13_run, c25_14_run, c25_15_run, c25_16_run, c25_17_run, c25_18_run, c25_19_run, c25_20_run, c25_21_run, c25_22_run, c25_23_run, seqX, e1, e2, e3, e4, hfr, hnr, build146, zero146, hst, hld, pCall_free, aret_free, ho]
  · obtain ⟨m, hm1, hm2, K4, h4⟩ := l2 hpos
    obtain ⟨N, rfl⟩ : ∃ N : Nat, n = N := ⟨n.toNat, by omega⟩
    obtain ⟨L, rfl⟩ : ∃ L' : Nat, L = L' := ⟨L.toNat, by omega⟩
    obtain ⟨E, rfl⟩ : ∃ E : Nat, e = E := ⟨e.toNat, by omega⟩
    obtain ⟨M, hM⟩ : ∃ M, M = m + 1 := ⟨_, rfl⟩
    have hMi : ((m : Int) + 1) = M := by omega
    rw [hMi] at h4
    obtain ⟨ks, hks⟩ := exists_fit hL.1 hn.1 he.2 hpos hm2.1 hm2.2
    have hf : fits N L E M 0 ((0 : Nat) : Int) 0 = true := by rw [hM]; exact (fits_iff _ _ _ _).2 ⟨ks, hks⟩
    obtain ⟨K5, h5⟩ := can_con hh (N := N) (L := L) (E := E) (M := M) (by omega) (by omega) (by omega) (by omega)
    obtain ⟨ex, fr', H2, ⟨K6, hl⟩, rfl, ho2, t, ht, gt, u', x', y15, y16, y0, y2, y6, y7, y8, y10, y31, y42, y49, y79, rfl⟩ := oloop hh (N := N) (L := L) (E := E) (M := M) (by omega) (by omega) (by omega) M 0 0 0 [] (by omega) (by omega) rfl (by omega) (by omega) hf H1.next 0 .undef .undef (.int .i64 N) (.int .i64 E) .nils (.int .i64 0) (.hp 0 0) (.bool true) (.bool false) (.bool false) .undef .undef (H1.put H1.next (.sl 0 1 true [])) (by rw [get_put, if_pos rfl]; rfl) ho
    have htl : t ≠ [] := by rintro rfl; rw [hM] at ht; cases ht
    rw [List.nil_append] at gt
    have hfz := frz_row gt
    refine ⟨m, t, hm1, hm2, by rw [← hM]; exact ht, htl, .of (max (max (max K1 K2) (max K3 K4)) (max K5 K6)) fun k hk => ?_⟩
    have e1 := h1 k (by omega)
    have e2 := h2 k (by omega)
    have e3 := h3 k (by omega)
    have e4 := h4 k (by omega)
    have e5 := h5 k (by omega)
    have hlk := hl k (by omega) k (by omega)
    simp only [tFr, oKeep, Int.natCast_zero] at hlk
    rw [f25_eq (hh _ _ _ (by decide))]
    simp [-Option.bind_some, f25_fin_normal, f25_fin_ret, c25_0_run, c25_1_run, c25_2_run, c25_3_run, c25_4_run, c25_5_k1, c25_5_k2, c25_5_run, c25_6_run, c25_7_run, c25_8_run, c25_9_run, c25_10_run, c25_11_run, c25_12_run, c25_13_run, c25_14_run, c25_15_run, c25_16_run, c25_17_run, c25_18_run, c25_19_run, c25_20_run, c25_21_run, c25_22_run, c25_23_run, c25_24_run, c25_25_run, c25_26_run, c25_27_run, c25_28_run, c25_29_run, c25_30_run, c25_31_run, c25_32_run, c25_33_run, c25_57_run, c25_58_chain, c25_58_run, c25_59_run, seqX, blockX, e1, e2, e3, e4, e5, hfr, hnr, build146, zero146, hst, hld, pCall_free, aret_free, ho, acc22, hlk, pre16, hfz, -Option.some.injEq]
    exact ho2
end Go.Proofs.Ytbkifahfbcalaaa
