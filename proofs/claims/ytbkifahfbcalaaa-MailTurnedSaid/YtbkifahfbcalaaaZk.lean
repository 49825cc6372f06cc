/-
  MAIL: what is known of mail.awake: the hook. Own work.
-/
import Derived.Test.YtbkifahfbcalaaaZi
set_option linter.unusedSimpArgs false
set_option linter.unusedVariables false
namespace Go.Stk
theorem Greedy.unique {n L e : Int} {r j : Nat} {u x : Int} {s t : List Int} (hs : Greedy n L e r j u x s) : Greedy n L e r j u x t → s = t := by
  induction hs generalizing t with
  | nil j u x => intro ht; cases ht; rfl
  | cons r j u x k ks hk h1 h2 h3 hl h ih =>
    intro ht
    cases ht with
    | cons _ _ _ _ q qs gk g1 g2 g3 gl g =>
      have : k = q := by
        rcases Int.lt_trichotomy k q with hlt | he | hgt
        · exact absurd ⟨⟨h1, h2⟩, h3⟩ (gl k hk hlt)
        · exact he
        · exact absurd ⟨⟨g1, g2⟩, g3⟩ (hl q gk hgt)
      subst this
      rw [ih g]
end Go.Stk
namespace Go.Proofs.Ytbkifahfbcalaaa
open Go.Am Go.Stk

theorem okProg : OkProg Try.prog := by
  refine ⟨by kernel_rfl, fun f fn hf => ?_⟩
  have h : Try.prog.funcs.all okFunc = true := by kernel_rfl
  rw [Array.all_eq_true] at h
  obtain ⟨hl, rfl⟩ := Array.getElem?_eq_some_iff.1 hf
  exact h f hl
theorem hk_noHook : Hk noHook := fun _ _ _ _ => rfl
theorem greedy10 : Greedy 10 3 1 3 0 0 0 [2, 5, 3] := by
  refine .cons _ _ _ _ _ _ (by decide) (by decide) (by decide) (by decide) (fun q h1 h2 => ?_) (.cons _ _ _ _ _ _ (by decide) (by decide) (by decide) (by decide) (fun q h1 h2 => ?_) (.cons _ _ _ _ _ _ (by decide) (by decide) (by decide) (by decide) (fun q h1 h2 => ?_) (.nil _ _ _)))
  · have : q = 1 := by omega
    subst this; decide
  · have : q = 1 ∨ q = 2 ∨ q = 3 ∨ q = 4 := by omega
    rcases this with rfl | rfl | rfl | rfl <;> decide
  · have : q = 1 ∨ q = 2 := by omega
    rcases this with rfl | rfl <;> decide
theorem turns10 : Con noHook 25 [.int .i64 10, .int .i64 3, .int .i64 1] (.tup [.vs (ints [2, 5, 3]), .int .i64 0]) := by
  obtain ⟨m, t, h1, h2, h3, _, h5⟩ := (turns_con hk_noHook (n := 10) (L := 3) (e := 1) (by omega) (by omega) (by omega)).2 (by decide)
  have he : endF 10 1 = 0 := by decide
  have hm : m = 2 := by
    obtain ⟨g1, g2⟩ := h2
    rw [he] at g1 g2
    omega
  subst hm
  rw [← h3.unique greedy10]
  exact h5
/-- .. and so awake need not work it out -/
def hookT : CallFn := fun f args L => if f = 25 ∧ AV.beqL args [.int .i64 10, .int .i64 3, .int .i64 1] = true ∧ L.isEmpty = true then some (.tup [.vs [.int .i64 2, .int .i64 5, .int .i64 3], .int .i64 0], []) else none
end Go.Proofs.Ytbkifahfbcalaaa
