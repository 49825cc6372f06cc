/-
  MAIL: mail.awake is true: worked out by the kernel over what is known of Turns. Own work.
  MAIL: from what the machine works out on trees to calls of the program; slices of integers as arguments. Own work.
-/
import Derived.Test.YtbkifahfbcalaaaZk
import Derived.Test.YtbkifahfbcalaaaRows
import Derived.WalkKit
import Derived.ProofKit
import Derived.OpenShut
import Derived.ChangeOld
import Derived.Below
import Derived.Carry
import Derived.ChangeSlices
set_option linter.unusedSimpArgs false
set_option linter.unusedVariables false
namespace Go.Proofs.Ytbkifahfbcalaaa
open Go.Am Go.Stk

theorem hookT_ok : CallSpec Try.prog hookT := by
  intro f args L v L' h
  unfold hookT at h
  split at h
  · rename_i hc
    obtain ⟨rfl, h2, h3⟩ := hc
    have h2 := AV.beqL_eq _ _ h2
    have h3 : L = [] := by simpa using h3
    subst h2; subst h3
    cases h
    obtain ⟨K, hK⟩ := turns10
    exact acall_ok okProg noHook_ok K 25 _ _ _ _ (hK K (Nat.le_refl _))
  · cases h
theorem awake_runs : acall Try.prog annOf hookT 60 10 [] [] = some (.bool true, []) := by kernel_rfl
/-- awake is true -/
def hookA : CallFn := fun f args L => if f = 10 ∧ args.isEmpty = true ∧ L.isEmpty = true then some (.bool true, []) else none
theorem hookA_ok : CallSpec Try.prog hookA := by
  intro f args L v L' h
  unfold hookA at h
  split at h
  · rename_i hc
    obtain ⟨rfl, h2, h3⟩ := hc
    have h2 : args = [] := by simpa using h2
    have h3 : L = [] := by simpa using h3
    subst h2; subst h3
    cases h
    exact acall_ok okProg hookT_ok 60 10 _ _ _ _ awake_runs
  · cases h
theorem hookA_hk : Hk hookA := by
  intro f args L hf
  simp [hookA, hf]
theorem hookA_10 : hookA 10 [] [] = some (.bool true, []) := rfl
end Go.Proofs.Ytbkifahfbcalaaa
namespace Go.Proofs.Ytbkifahfbcalaaa
open Go.Am Go.Stk
open Go.ChangeShapes Go.WideShapes Go.ChangeAt Go.RowKit

/-- the world before, as the machine sees it: nothing of it is touched -/
def ghOf (W : World) : Gh := { w := W, F := fun _ => False, ι := fun _ => none, A := fun _ _ => False, H := { heapOf [] with outer := [] }, yl := none }
theorem ghOf_get {W : World} {b : Nat} : (ghOf W).H.get b = none := rfl
theorem ghOf_M {W : World} {B : Nat} : ¬ (ghOf W).M B := by
  rintro (h | ⟨b, x, h, _⟩)
  · exact h
  · rw [ghOf_get] at h; cases h
theorem ghOf_st {W : World} : StRel (ghOf W) where
  next := fun _ _ h => h.elim
  here := fun b x h => by rw [ghOf_get] at h; cases h
  gen := fun _ _ _ _ _ _ _ h => h.elim
  blk := fun b x h => by rw [ghOf_get] at h; cases h
  inj := fun b b' x x' B h => by rw [ghOf_get] at h; cases h
  low := fun _ h => h.elim
/-- a call that the machine has worked out on trees -/
theorem calls_of_con {hook : CallFn} (hk : CallSpec Try.prog hook) {f : FuncId} {args : List AV} {v : AV} (hc : Con hook f args v) {W : World} {cargs : Array Value} (ha : ArgsRel (ghOf W) args cargs) :
    Calls Try.prog f cargs W fun e W' => ∃ cv G1, e = .returned cv ∧ VRel G1 v cv ∧ Below W.heap.size W W' := by
  obtain ⟨K, hK⟩ := hc
  refine callsIn_wide.1 (((acall_ok okProg hk K f args [] v [] (hK K (Nat.le_refl _))).2 (ghOf W) cargs ghOf_st rfl ha).mono ?_)
  rintro e W' ⟨cv, G1, e1, rfl, e3, _, e5⟩
  exact ⟨cv, G1, e1, e5, e3.os, e3.tape, e3.output, e3.size, fun B hB => e3.far B hB (fun b x h => by rw [ghOf_get] at h; cases h) (.inl rfl)⟩
/-- a slice of integers read: as a tree -/
theorem slice_ints {W : World} {a : Addr} {len cap : Nat} {k : IntKind} {zs : List Int} (hl : len ≤ cap) (hz : zs.length = cap) (hlt : ∀ i, i < zs.length → a.block < W.heap.size) (hcell : ∀ i, i < zs.length → W.cell? (a.add i) = some (.int k (zs.getD i 0))) :
    ∃ X, VRel (ghOf W) X (.slice (some a) len cap) ∧ IsRow X ((zs.take len).map (AV.int k)) := by
  by_cases h0 : len = 0
  · subst h0
    exact ⟨.en, .en a cap, .inr ⟨by simp, .inr (.inl rfl)⟩⟩
  · obtain ⟨b, o, spot⟩ := a
    have hspot : spot = none := by simpa [Addr.add] using World.cell?_spot (hcell 0 (by omega))
    subst hspot
    have hlen : ((zs.take len).map (AV.int k)).length = len := by simp; omega
    have hel : ∀ (i : Nat) e, ((zs.take len).map (AV.int k))[i]? = some e → i < zs.length ∧ e = .int k (zs.getD i 0) := by
      intro i e he
      rw [List.getElem?_map, Option.map_eq_some_iff] at he
      obtain ⟨n, hn, rfl⟩ := he
      have hi : i < zs.length := by
        have := (List.getElem?_eq_some_iff.1 hn).1
        simp at this; omega
      refine ⟨hi, ?_⟩
      rw [List.getElem?_take] at hn
      split at hn
      · rw [List.getD_eq_getElem?_getD, hn]; rfl
      · cases hn
    refine ⟨.vs ((zs.take len).map (AV.int k)), ?_, .inl rfl⟩
    have hv := VRel.vs (G := ghOf W) ((zs.take len).map (AV.int k)) (some ⟨b, o, none⟩) cap b o 1 (fun i _ => .int k (zs.getD i 0)) (by rw [hlen]; exact hl) (.inr ⟨rfl, ghOf_M, hlt 0 (by omega)⟩) (fun i e he => by
        obtain ⟨_, rfl⟩ := hel i e he
        exact ⟨rfl, rfl⟩) (fun i e j c he hc => by
        obtain ⟨hi, rfl⟩ := hel i e he
        have hj : j = 0 := by
          simp only [cells_int] at hc
          have := (List.getElem?_eq_some_iff.1 hc).1
          simpa using this
        subst hj
        have := hcell i hi
        rw [add_plain] at this
        rw [Nat.mul_one, Nat.add_zero]
        exact this) (fun i e j c he hc => by
        obtain ⟨hi, rfl⟩ := hel i e he
        have hj : j = 0 := by
          simp only [cells_int] at hc
          have := (List.getElem?_eq_some_iff.1 hc).1
          simpa using this
        subst hj
        simp only [cells_int, List.getElem?_cons_zero, Option.some.injEq] at hc
        subst hc
        exact .int _ _)
    rw [hlen] at hv
    exact hv
end Go.Proofs.Ytbkifahfbcalaaa
