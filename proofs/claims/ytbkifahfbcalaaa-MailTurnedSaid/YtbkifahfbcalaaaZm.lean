/-
  MailTurned: for each input (a slice of bytes and two bytes, of whatever lengths and values) the law answers true, and its arguments read as they did. No further condition. Own work.
-/
import Derived.Test.YtbkifahfbcalaaaZj
import Derived.Test.YtbkifahfbcalaaaZl
set_option linter.unusedSimpArgs false
set_option linter.unusedVariables false
namespace Go.Proofs.Ytbkifahfbcalaaa
open Go.Am Go.Stk
open Go.ChangeShapes Go.WideShapes Go.ChangeAt Go.RowKit

theorem laidOut : laidOutB Try.prog = true := by kernel_rfl
theorem own : ownKnob Try.prog.godebug = none := by kernel_rfl
set_option maxRecDepth 100000 in
theorem mailTurned_lifted (os : Os) (started : os.Started) (H : Type) (enc : TypeId × Value → H) :
    ReturnsInHanded {} Try.checked os 6 .any (Rows.mailTurnedSpec.pre6 enc Try.prog Try.f6 Rows.mailTurnedRow.domain false) (Rows.mailTurnedSpec.post enc Try.prog Try.f6 false true false false) := by
  refine returnsInHanded_of_change (C := Try.checked) own started (by kernel_rfl) Try.func6
    (ChangeSpec.witness6 (enc := enc) (C := Try.checked) false ⟨#[], #[.slice none 0 0, .int .u8 0, .int .u8 0], []⟩ 8 (by kernel_rfl) (by kernel_rfl) (by kernel_rfl) (by kernel_rfl)) ?_
  intro W base args ds gs before hval0 hW hcnd _
  have hval : ∀ (j : Nat) t v, Try.f6.params[j]? = some t → args[j]? = some v → Value.okWide Try.prog W .any base t v := hval0
  have hW' := hW
  obtain ⟨p, q, hA0, hV, rfl, hfz, hnd⟩ := hW
  have hA : DataW.TrodAll enc Try.prog W 0 (fun _ => true) true Try.f6.params.toList args.toList ds p := hA0
  rw [Try.params6] at hA hval
  obtain ⟨v0, vs0, d0, ds0, p0, q0, hargs, rfl, rfl, h0, r0⟩ := trodAll_cons hA
  obtain ⟨v1, vs1, d1, ds1, p1, q1, rfl, rfl, rfl, h1, r1⟩ := trodAll_cons r0
  obtain ⟨v2, vs2, d2, ds2, p2, q2, rfl, rfl, rfl, h2, r2⟩ := trodAll_cons r1
  obtain ⟨rfl, rfl, rfl⟩ := trodAll_nil r2
  obtain rfl : args = #[v0, v1, v2] := by cases args; simp_all
  obtain ⟨rfl, rfl⟩ := trodVars_none hV
  obtain ⟨a0, len0, cap0, rfl⟩ := okWide_slice und25 (hval 0 25 v0 rfl rfl)
  have k0 := h0
  have lt0 : ∀ x ∈ p0, x.block < W.heap.size := by obtain ⟨m, hm⟩ := k0; exact DataW.trod_lt m _ _ _ hm
  obtain ⟨l, X, hX, hR, hll, hlb⟩ : ∃ (l : List Int) (X : AV), IsRow X (bytes l) ∧ VRel (ghOf W) X (.slice a0 len0 cap0) ∧ l.length < 9223372036854775808 ∧ ∀ c ∈ l, 0 ≤ c ∧ c ≤ 255 := by
    obtain ⟨fuel, hf⟩ := h0
    rcases open_ints und25 Try.underlying5 (by kernel_rfl) hf with ⟨hcs, _⟩ | ⟨x, ln, c, zs, hcs, _, hl, hm, hz, hx, hcell, hwz⟩
    · simp [Value.cells] at hcs
      obtain ⟨rfl, rfl, rfl⟩ := hcs
      exact ⟨[], .nils, .inr ⟨rfl, .inl rfl⟩, .nils, by simp, by simp⟩
    · simp [Value.cells] at hcs
      obtain ⟨rfl, rfl, rfl⟩ := hcs
      have hz' : zs.length = cap0 := by simpa using hz
      simp only [Prod.mk.injEq] at hx
      obtain ⟨_, rfl⟩ := hx
      obtain ⟨X, hX1, hX2⟩ := slice_ints (W := W) (k := .u8) hl hz' (fun i hi => lt0 (.cell x.block (x.off + i)) (MemPlace.mem_row.2 ⟨i, hi, rfl⟩)) hcell
      unfold maxLen at hm
      refine ⟨zs.take len0, X, hX2, hX1, by rw [List.length_take]; omega, fun n hn => ?_⟩
      have := hwz n (List.mem_of_mem_take hn)
      simp only [Lit.wf, Bool.and_eq_true, decide_eq_true_eq] at this
      exact this
  obtain ⟨a1, rfl, rfl, rfl, w1⟩ := open_int Try.underlying5 (hval 1 5 v1 rfl rfl) h1
  obtain ⟨a2, rfl, rfl, rfl, w2⟩ := open_int Try.underlying5 (hval 2 5 v2 rfl rfl) h2
  have b1 : 0 ≤ a1 ∧ a1 ≤ 255 := by
    have := w1
    simp only [Lit.wf, Bool.and_eq_true, decide_eq_true_eq] at this
    exact this
  have b2 : 0 ≤ a2 ∧ a2 ≤ 255 := by
    have := w2
    simp only [Lit.wf, Bool.and_eq_true, decide_eq_true_eq] at this
    exact this
  clear hA0 hval0
  have hcon := turned_con hookA_hk hookA_10 hX hlb hll b1 b2
  refine (calls_of_con hookA_ok hcon (W := W) (cargs := #[.slice a0 len0 cap0, .int .u8 a1, .int .u8 a2]) ⟨rfl, fun i a c ha hc => ?_⟩).mono ?_
  · match i with
    | 0 => simp at ha hc; subst ha; subst hc; exact hR
    | 1 => simp at ha hc; subst ha; subst hc; exact .int _ _
    | 2 => simp at ha hc; subst ha; subst hc; exact .int _ _
    | i + 3 => simp at ha
  · rintro e W' ⟨cv, G1, rfl, hv, bel⟩
    cases hv
    exact ⟨_, rfl, _, _, _, [], _, [], hW', trodAll_mk1 (shut_bool Try.underlying4 _), (trodAll_cons_mk (Below.trod laidOut (by kernel_rfl) (of_decide_eq_true (by kernel_rfl)) k0 bel lt0) (trodAll_cons_mk (shut_int Try.underlying5 w1) (trodAll_cons_mk (shut_int Try.underlying5 w2) trodAll_mk0))), rfl, bel.frame _, fun h => by cases h⟩
/-- the statement -/
theorem mailTurned_proved : Rows.MailTurnedSaid :=
  OpenClaim.holds_of_wide 6 Try.f6 rfl rfl rfl rfl rfl rfl rfl ⟨rfl, rfl, rfl, rfl, rfl⟩ rfl rfl rfl rfl rfl (by kernel_rfl) Try.func6 (by kernel_rfl)
    (of_decide_eq_true (by kernel_rfl)) (by unfold Func.isWrapper; first | (rw [if_pos (by decide +kernel)]; kernel_rfl) | (rw [if_neg (by decide +kernel)]; exact ⟨rfl, rfl⟩))
    (fun os started H enc _ => mailTurned_lifted os started H enc)
#print axioms mailTurned_proved
end Go.Proofs.Ytbkifahfbcalaaa
