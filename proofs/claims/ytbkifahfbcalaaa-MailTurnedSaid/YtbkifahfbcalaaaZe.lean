/-
  THE CODE of functions 20 24 25 54 56 70 71 72 73 74 94 in pieces, and what each piece does: equations written by a program of our own (gen_fn.py), each checked by the kernel.
-/
import Derived.Test.YtbkifahfbcalaaaZd
set_option linter.unusedSimpArgs false
set_option linter.unusedVariables false
namespace Go.Proofs.Ytbkifahfbcalaaa
open Go.Am
variable {call : CallFn} {callY : YFn → FuncId → List AV → List OSt → Option (AV × List OSt)} {yl : Option YFn} {gc : Bool} {nL k : Nat}
noncomputable def c20_0 : Code := cBody Try.f20
noncomputable def c20_1 : Code := cL c20_0
theorem c20_1_run (x0 x1 x4 : AV) (H : Heap) : arun (cxM call callY yl gc nL an20 k) c20_1 [x0, x1, x4] H = some (.normal, [x0, x1, (.bool false)], H) :=
  arun_region (by kernel_rfl) (by kernel_rfl)
noncomputable def c20_2 : Code := cR c20_0
noncomputable def c20_3 : Code := cL c20_2
theorem c20_3_run (x0 x1 x4 : AV) (H : Heap) : arun (cxM call callY yl gc nL an20 k) c20_3 [x0, x1, x4] H = (pCall call 0 56 ([] ++ [x0, x1] ++ []) H H.next).bind fun r2 => (pBin Try.prog .geq 3 r2.1 (.int .i64 0) r2.2.1).bind fun y3 => some (.normal, [x0, x1, y3], r2.2.1) :=
  arun_region (by kernel_rfl) (by kernel_rfl)
noncomputable def c20_4 : Code := cR c20_2
theorem c20_4_run (fr : List AV) (H : Heap) : arun (cxM call callY yl gc nL an20 k) c20_4 fr H = some (.ret, fr, H) := by kernel_rfl
theorem c20_2_run (fr : List AV) (H : Heap) : arun (cxM call callY yl gc nL an20 k) c20_2 fr H = seqX (arun (cxM call callY yl gc nL an20 k) c20_3) (arun (cxM call callY yl gc nL an20 k) c20_4) fr H := by kernel_rfl
theorem c20_0_run (fr : List AV) (H : Heap) : arun (cxM call callY yl gc nL an20 k) c20_0 fr H = seqX (arun (cxM call callY yl gc nL an20 k) c20_1) (arun (cxM call callY yl gc nL an20 k) c20_2) fr H := by kernel_rfl
noncomputable def fin20 (nL : Nat) (r : ARes) : Option (AV × List ABlk) := finish Try.prog an20 Try.f20.results.toList nL r
theorem f20_eq {h : CallFn} {k : Nat} {x0 x1 : AV} (hh : h 20 [x0, x1] [] = none) : acall Try.prog annOf h (k + 1) 20 [x0, x1] [] = fin20 0 (arun (cxM (acall Try.prog annOf h k) (callYM Try.prog annOf h k) none true 0 an20 k) c20_0 [x0, x1, .undef] ⟨0, [], []⟩) :=
  acall_eq (fn := Try.f20) (c := c20_0) (by kernel_rfl) (by kernel_rfl) (Nat.le_of_ble_eq_true (by kernel_rfl)) hh
theorem f20_eqL {h : CallFn} {k : Nat} {x0 x1 : AV} {L : List ABlk} (hh : h 20 [x0, x1] L = none) : acall Try.prog annOf h (k + 1) 20 [x0, x1] L = fin20 L.length (arun (cxM (acall Try.prog annOf h k) (callYM Try.prog annOf h k) none true L.length an20 k) c20_0 [x0, x1, .undef] { heapOf L with outer := [] }) :=
  acall_eq (fn := Try.f20) (c := c20_0) (by kernel_rfl) (by kernel_rfl) (Nat.le_of_ble_eq_true (by kernel_rfl)) hh
theorem f20_fin_ret {y0 y1 y4 : AV} {H : Heap} {nL : Nat} : fin20 nL (some (.ret, [y0, y1, y4], H)) = (aret an20.frz nL y4 H).bind fun r => if H.outer.isEmpty then some r else none := by kernel_rfl
theorem f20_fin_normal {y0 y1 y4 : AV} {H : Heap} {nL : Nat} : fin20 nL (some (.normal, [y0, y1, y4], H)) = (aret an20.frz nL y4 H).bind fun r => if H.outer.isEmpty then some r else none := by kernel_rfl
noncomputable def c24_0 : Code := cBody Try.f24
noncomputable def c24_1 : Code := cL c24_0
theorem c24_1_run (x0 x1 x2 x6 x7 x8 x9 x10 x13 x28 x29 x30 x31 x32 x43 : AV) (H : Heap) : arun (cxM call callY yl gc nL an24 k) c24_1 [x0, x1, x2, x6, x7, x8, x9, x10, x13, x28, x29, x30, x31, x32, x43] H = some (.normal, [x0, x1, x2, (.bool false), (.int .i64 0), x8, x9, x10, x13, x28, x29, x30, x31, x32, x43], H) :=
  arun_region (by kernel_rfl) (by kernel_rfl)
noncomputable def c24_2 : Code := cR c24_0
noncomputable def c24_3 : Code := cL c24_2
noncomputable def c24_4 : Code := cL c24_3
theorem c24_4_run (x0 x1 x2 x6 x7 x8 x9 x10 x13 x28 x29 x30 x31 x32 x43 : AV) (H : Heap) : arun (cxM call callY yl gc nL an24 k) c24_4 [x0, x1, x2, x6, x7, x8, x9, x10, x13, x28, x29, x30, x31, x32, x43] H = (pLen Try.prog 22 x0 H).bind fun y1 => (pBin Try.prog .gtr 3 y1 (.int .i64 200) H).bind fun y2 => some (.normal, [x0, x1, x2, x6, x7, x8, x9, x10, y2, x28, x29, x30, x31, x32, x43], H) :=
  arun_region (by kernel_rfl) (by kernel_rfl)
noncomputable def c24_5 : Code := cR c24_3
noncomputable def c24_6 : Code := cL c24_5
noncomputable def c24_7 : Code := cL c24_6
theorem c24_7_run (x0 x1 x2 x6 x7 x8 x9 x10 x13 x28 x29 x30 x31 x32 x43 : AV) (H : Heap) : arun (cxM call callY yl gc nL an24 k) c24_7 [x0, x1, x2, x6, x7, x8, x9, x10, x13, x28, x29, x30, x31, x32, x43] H = some (.normal, [x0, x1, x2, (.bool false), (.int .i64 2), x8, x9, x10, x13, x28, x29, x30, x31, x32, x43], H) :=
  arun_region (by kernel_rfl) (by kernel_rfl)
noncomputable def c24_8 : Code := cR c24_6
theorem c24_8_run (fr : List AV) (H : Heap) : arun (cxM call callY yl gc nL an24 k) c24_8 fr H = some (.ret, fr, H) := by kernel_rfl
theorem c24_6_run (fr : List AV) (H : Heap) : arun (cxM call callY yl gc nL an24 k) c24_6 fr H = seqX (arun (cxM call callY yl gc nL an24 k) c24_7) (arun (cxM call callY yl gc nL an24 k) c24_8) fr H := by kernel_rfl
noncomputable def c24_9 : Code := cR c24_5
theorem c24_9_run (fr : List AV) (H : Heap) : arun (cxM call callY yl gc nL an24 k) c24_9 fr H = some (.normal, fr, H) := by kernel_rfl
theorem c24_5_run (x0 x1 x2 x6 x7 x8 x9 x10 x13 x28 x29 x30 x31 x32 x43 : AV) (H : Heap) : arun (cxM call callY yl gc nL an24 k) c24_5 [x0, x1, x2, x6, x7, x8, x9, x10, x13, x28, x29, x30, x31, x32, x43] H = condX x13 (arun (cxM call callY yl gc nL an24 k) c24_6) (arun (cxM call callY yl gc nL an24 k) c24_9) [x0, x1, x2, x6, x7, x8, x9, x10, x13, x28, x29, x30, x31, x32, x43] H := by kernel_rfl
theorem c24_3_run (fr : List AV) (H : Heap) : arun (cxM call callY yl gc nL an24 k) c24_3 fr H = seqX (arun (cxM call callY yl gc nL an24 k) c24_4) (arun (cxM call callY yl gc nL an24 k) c24_5) fr H := by kernel_rfl
noncomputable def c24_10 : Code := cR c24_2
noncomputable def c24_11 : Code := cL c24_10
noncomputable def c24_12 : Code := cL c24_11
noncomputable def c24_12_k1 (x0 : AV) (x1 : AV) (x2 : AV) (x6 : AV) (x7 : AV) (x8 : AV) (x9 : AV) (x10 : AV) (x13 : AV) (x29 : AV) (x30 : AV) (x31 : AV) (x32 : AV) (x43 : AV) (y6 : AV) (q9 : Q4) : ARes := (pPick y6 (.bool true) q9.1).bind fun y10 => (gd y10 false (some ((x0, q9.2.1, [], []) : Q4)) ((.tup [], q9.2.1, [], []) : Q4)).bind fun q12 => (gd y10 false ((pCall call 0 20 ([] ++ [q12.1, (.fn 70 [] [])] ++ []) q12.2.1 q12.2.1.next).bind fun r13 => some ((r13.1, r13.2.1, r13.2.2.1, r13.2.2.2) : Q4)) ((.tup [], q12.2.1, [], []) : Q4)).bind fun q13 => (pPick y10 (.bool true) q13.1).bind fun y14 => some (.normal, [x0, x1, x2, x6, x7, x8, x9, x10, x13, y14, x29, x30, x31, x32, x43], q13.2.1)
noncomputable def c24_12_k2 (x0 : AV) (x1 : AV) (x2 : AV) (x6 : AV) (x7 : AV) (x8 : AV) (x9 : AV) (x10 : AV) (x13 : AV) (x29 : AV) (x30 : AV) (x31 : AV) (x32 : AV) (x43 : AV) (y2 : AV) (q4 : Q4) : ARes := (gd y2 false ((pBin Try.prog .lss 3 q4.1 (.int .i64 0) q4.2.1).bind fun y3 => some ((y3, q4.2.1, (rdOf q4.1), []) : Q4)) ((.tup [], q4.2.1, [], []) : Q4)).bind fun q5 => (pPick y2 (.bool true) q5.1).bind fun y6 => (gd y6 false (some ((x2, q5.2.1, [], []) : Q4)) ((.tup [], q5.2.1, [], []) : Q4)).bind fun q8 => (gd y6 false ((pBin Try.prog .lss 3 q8.1 (.int .i64 0) q8.2.1).bind fun y7 => some ((y7, q8.2.1, (rdOf q8.1), []) : Q4)) ((.tup [], q8.2.1, [], []) : Q4)).bind fun q9 => (c24_12_k1 (call := call) x0 x1 x2 x6 x7 x8 x9 x10 x13 x29 x30 x31 x32 x43 y6 q9)
theorem c24_12_run (x0 x1 x2 x6 x7 x8 x9 x10 x13 x28 x29 x30 x31 x32 x43 : AV) (H : Heap) : arun (cxM call callY yl gc nL an24 k) c24_12 [x0, x1, x2, x6, x7, x8, x9, x10, x13, x28, x29, x30, x31, x32, x43] H = (pLen Try.prog 22 x0 H).bind fun y1 => (pBin Try.prog .eql 3 y1 (.int .i64 0) H).bind fun y2 => (gd y2 false (some ((x1, H, [], []) : Q4)) ((.tup [], H, [], []) : Q4)).bind fun q4 => (c24_12_k2 (call := call) x0 x1 x2 x6 x7 x8 x9 x10 x13 x29 x30 x31 x32 x43 y2 q4) :=
  arun_region (by kernel_rfl) (by kernel_rfl)
noncomputable def c24_13 : Code := cR c24_11
noncomputable def c24_14 : Code := cL c24_13
noncomputable def c24_15 : Code := cL c24_14
theorem c24_15_run (x0 x1 x2 x6 x7 x8 x9 x10 x13 x28 x29 x30 x31 x32 x43 : AV) (H : Heap) : arun (cxM call callY yl gc nL an24 k) c24_15 [x0, x1, x2, x6, x7, x8, x9, x10, x13, x28, x29, x30, x31, x32, x43] H = some (.normal, [x0, x1, x2, (.bool false), (.int .i64 1), x8, x9, x10, x13, x28, x29, x30, x31, x32, x43], H) :=
  arun_region (by kernel_rfl) (by kernel_rfl)
noncomputable def c24_16 : Code := cR c24_14
theorem c24_16_run (fr : List AV) (H : Heap) : arun (cxM call callY yl gc nL an24 k) c24_16 fr H = some (.ret, fr, H) := by kernel_rfl
theorem c24_14_run (fr : List AV) (H : Heap) : arun (cxM call callY yl gc nL an24 k) c24_14 fr H = seqX (arun (cxM call callY yl gc nL an24 k) c24_15) (arun (cxM call callY yl gc nL an24 k) c24_16) fr H := by kernel_rfl
noncomputable def c24_17 : Code := cR c24_13
theorem c24_17_run (fr : List AV) (H : Heap) : arun (cxM call callY yl gc nL an24 k) c24_17 fr H = some (.normal, fr, H) := by kernel_rfl
theorem c24_13_run (x0 x1 x2 x6 x7 x8 x9 x10 x13 x28 x29 x30 x31 x32 x43 : AV) (H : Heap) : arun (cxM call callY yl gc nL an24 k) c24_13 [x0, x1, x2, x6, x7, x8, x9, x10, x13, x28, x29, x30, x31, x32, x43] H = condX x28 (arun (cxM call callY yl gc nL an24 k) c24_14) (arun (cxM call callY yl gc nL an24 k) c24_17) [x0, x1, x2, x6, x7, x8, x9, x10, x13, x28, x29, x30, x31, x32, x43] H := by kernel_rfl
theorem c24_11_run (fr : List AV) (H : Heap) : arun (cxM call callY yl gc nL an24 k) c24_11 fr H = seqX (arun (cxM call callY yl gc nL an24 k) c24_12) (arun (cxM call callY yl gc nL an24 k) c24_13) fr H := by kernel_rfl
noncomputable def c24_18 : Code := cR c24_10
noncomputable def c24_19 : Code := cL c24_18
theorem c24_19_run (x0 x1 x2 x6 x7 x8 x9 x10 x13 x28 x29 x30 x31 x32 x43 : AV) (H : Heap) : arun (cxM call callY yl gc nL an24 k) c24_19 [x0, x1, x2, x6, x7, x8, x9, x10, x13, x28, x29, x30, x31, x32, x43] H = some (.normal, [x0, x1, x2, x6, x7, (.int .i64 0), x9, x10, x13, x28, x29, x30, x31, x32, x43], H) :=
  arun_region (by kernel_rfl) (by kernel_rfl)
noncomputable def c24_20 : Code := cR c24_18
noncomputable def c24_21 : Code := cL c24_20
noncomputable def c24_22 : Code := cL c24_21
theorem c24_22_run (x0 x1 x2 x6 x7 x8 x9 x10 x13 x28 x29 x30 x31 x32 x43 : AV) (H : Heap) : arun (cxM call callY yl gc nL an24 k) c24_22 [x0, x1, x2, x6, x7, x8, x9, x10, x13, x28, x29, x30, x31, x32, x43] H = (pLen Try.prog 22 x0 H).bind fun y1 => some (.normal, [x0, x1, x2, x6, x7, x8, x9, x10, x13, x28, x0, y1, (.int .i64 0), x32, x43], H) :=
  arun_region (by kernel_rfl) (by kernel_rfl)
noncomputable def c24_23 : Code := cR c24_21
noncomputable def c24_24 : Code := cL c24_23
noncomputable def c24_25 : Code := cL c24_24
noncomputable def c24_26 : Code := cL c24_25
theorem c24_26_run (x0 x1 x2 x6 x7 x8 x9 x10 x13 x28 x29 x30 x31 x32 x43 : AV) (H : Heap) : arun (cxM call callY yl gc nL an24 k) c24_26 [x0, x1, x2, x6, x7, x8, x9, x10, x13, x28, x29, x30, x31, x32, x43] H = (pBin Try.prog .lss 3 x31 x30 H).bind fun y0 => some (.normal, [x0, x1, x2, x6, x7, x8, x9, x10, x13, x28, x29, x30, x31, y0, x43], H) :=
  arun_region (by kernel_rfl) (by kernel_rfl)
noncomputable def c24_27 : Code := cR c24_25
noncomputable def c24_28 : Code := cL c24_27
noncomputable def c24_29 : Code := cL c24_28
theorem c24_29_run (fr : List AV) (H : Heap) : arun (cxM call callY yl gc nL an24 k) c24_29 fr H = some (.normal, fr, H) := by kernel_rfl
noncomputable def c24_30 : Code := cR c24_28
theorem c24_30_run (fr : List AV) (H : Heap) : arun (cxM call callY yl gc nL an24 k) c24_30 fr H = some (.exit 0, fr, H) := by kernel_rfl
theorem c24_28_run (x0 x1 x2 x6 x7 x8 x9 x10 x13 x28 x29 x30 x31 x32 x43 : AV) (H : Heap) : arun (cxM call callY yl gc nL an24 k) c24_28 [x0, x1, x2, x6, x7, x8, x9, x10, x13, x28, x29, x30, x31, x32, x43] H = condX x32 (arun (cxM call callY yl gc nL an24 k) c24_29) (arun (cxM call callY yl gc nL an24 k) c24_30) [x0, x1, x2, x6, x7, x8, x9, x10, x13, x28, x29, x30, x31, x32, x43] H := by kernel_rfl
noncomputable def c24_31 : Code := cR c24_27
noncomputable def c24_32 : Code := cL c24_31
noncomputable def c24_33 : Code := cL c24_32
noncomputable def c24_34 : Code := cL c24_33
theorem c24_34_run (x0 x1 x2 x6 x7 x8 x9 x10 x13 x28 x29 x30 x31 x32 x43 : AV) (H : Heap) : arun (cxM call callY yl gc nL an24 k) c24_34 [x0, x1, x2, x6, x7, x8, x9, x10, x13, x28, x29, x30, x31, x32, x43] H = (pIndexAddr Try.prog 22 x29 x31 H).bind fun y1 => (pLoad Try.prog 3 y1 H).bind fun y2 => some (.normal, [x0, x1, x2, x6, x7, x8, x31, y2, x13, x28, x29, x30, x31, x32, x43], H) :=
  arun_region (by kernel_rfl) (by kernel_rfl)
noncomputable def c24_35 : Code := cR c24_33
noncomputable def c24_36 : Code := cL c24_35
theorem c24_36_run (x0 x1 x2 x6 x7 x8 x9 x10 x13 x28 x29 x30 x31 x32 x43 : AV) (H : Heap) : arun (cxM call callY yl gc nL an24 k) c24_36 [x0, x1, x2, x6, x7, x8, x9, x10, x13, x28, x29, x30, x31, x32, x43] H = (pCall call 0 71 ([] ++ [x8, x10, x9] ++ []) H H.next).bind fun r3 => some (.normal, [x0, x1, x2, x6, x7, r3.1, x9, x10, x13, x28, x29, x30, x31, x32, x43], r3.2.1) :=
  arun_region (by kernel_rfl) (by kernel_rfl)
noncomputable def c24_37 : Code := cR c24_35
noncomputable def c24_38 : Code := cL c24_37
theorem c24_38_run (x0 x1 x2 x6 x7 x8 x9 x10 x13 x28 x29 x30 x31 x32 x43 : AV) (H : Heap) : arun (cxM call callY yl gc nL an24 k) c24_38 [x0, x1, x2, x6, x7, x8, x9, x10, x13, x28, x29, x30, x31, x32, x43] H = (pCall call 0 72 ([] ++ [x8, x1] ++ []) H H.next).bind fun r2 => (pUn .not r2.1).bind fun y3 => some (.normal, [x0, x1, x2, x6, x7, x8, x9, x10, x13, x28, x29, x30, x31, x32, y3], r2.2.1) :=
  arun_region (by kernel_rfl) (by kernel_rfl)
noncomputable def c24_39 : Code := cR c24_37
noncomputable def c24_40 : Code := cL c24_39
noncomputable def c24_41 : Code := cL c24_40
theorem c24_41_run (x0 x1 x2 x6 x7 x8 x9 x10 x13 x28 x29 x30 x31 x32 x43 : AV) (H : Heap) : arun (cxM call callY yl gc nL an24 k) c24_41 [x0, x1, x2, x6, x7, x8, x9, x10, x13, x28, x29, x30, x31, x32, x43] H = some (.normal, [x0, x1, x2, (.bool false), (.int .i64 0), x8, x9, x10, x13, x28, x29, x30, x31, x32, x43], H) :=
  arun_region (by kernel_rfl) (by kernel_rfl)
noncomputable def c24_42 : Code := cR c24_40
theorem c24_42_run (fr : List AV) (H : Heap) : arun (cxM call callY yl gc nL an24 k) c24_42 fr H = some (.ret, fr, H) := by kernel_rfl
theorem c24_40_run (fr : List AV) (H : Heap) : arun (cxM call callY yl gc nL an24 k) c24_40 fr H = seqX (arun (cxM call callY yl gc nL an24 k) c24_41) (arun (cxM call callY yl gc nL an24 k) c24_42) fr H := by kernel_rfl
noncomputable def c24_43 : Code := cR c24_39
theorem c24_43_run (fr : List AV) (H : Heap) : arun (cxM call callY yl gc nL an24 k) c24_43 fr H = some (.normal, fr, H) := by kernel_rfl
theorem c24_39_run (x0 x1 x2 x6 x7 x8 x9 x10 x13 x28 x29 x30 x31 x32 x43 : AV) (H : Heap) : arun (cxM call callY yl gc nL an24 k) c24_39 [x0, x1, x2, x6, x7, x8, x9, x10, x13, x28, x29, x30, x31, x32, x43] H = condX x43 (arun (cxM call callY yl gc nL an24 k) c24_40) (arun (cxM call callY yl gc nL an24 k) c24_43) [x0, x1, x2, x6, x7, x8, x9, x10, x13, x28, x29, x30, x31, x32, x43] H := by kernel_rfl
theorem c24_37_run (fr : List AV) (H : Heap) : arun (cxM call callY yl gc nL an24 k) c24_37 fr H = seqX (arun (cxM call callY yl gc nL an24 k) c24_38) (arun (cxM call callY yl gc nL an24 k) c24_39) fr H := by kernel_rfl
theorem c24_35_run (fr : List AV) (H : Heap) : arun (cxM call callY yl gc nL an24 k) c24_35 fr H = seqX (arun (cxM call callY yl gc nL an24 k) c24_36) (arun (cxM call callY yl gc nL an24 k) c24_37) fr H := by kernel_rfl
theorem c24_33_run (fr : List AV) (H : Heap) : arun (cxM call callY yl gc nL an24 k) c24_33 fr H = seqX (arun (cxM call callY yl gc nL an24 k) c24_34) (arun (cxM call callY yl gc nL an24 k) c24_35) fr H := by kernel_rfl
theorem c24_32_run (fr : List AV) (H : Heap) : arun (cxM call callY yl gc nL an24 k) c24_32 fr H = blockX 1 (arun (cxM call callY yl gc nL an24 k) c24_33) fr H := by kernel_rfl
noncomputable def c24_44 : Code := cR c24_31
theorem c24_44_run (x0 x1 x2 x6 x7 x8 x9 x10 x13 x28 x29 x30 x31 x32 x43 : AV) (H : Heap) : arun (cxM call callY yl gc nL an24 k) c24_44 [x0, x1, x2, x6, x7, x8, x9, x10, x13, x28, x29, x30, x31, x32, x43] H = (pBin Try.prog .add 3 x31 (.int .i64 1) H).bind fun y0 => some (.normal, [x0, x1, x2, x6, x7, x8, x9, x10, x13, x28, x29, x30, y0, x32, x43], H) :=
  arun_region (by kernel_rfl) (by kernel_rfl)
theorem c24_31_run (fr : List AV) (H : Heap) : arun (cxM call callY yl gc nL an24 k) c24_31 fr H = seqX (arun (cxM call callY yl gc nL an24 k) c24_32) (arun (cxM call callY yl gc nL an24 k) c24_44) fr H := by kernel_rfl
theorem c24_27_run (fr : List AV) (H : Heap) : arun (cxM call callY yl gc nL an24 k) c24_27 fr H = seqX (arun (cxM call callY yl gc nL an24 k) c24_28) (arun (cxM call callY yl gc nL an24 k) c24_31) fr H := by kernel_rfl
theorem c24_25_run (fr : List AV) (H : Heap) : arun (cxM call callY yl gc nL an24 k) c24_25 fr H = seqX (arun (cxM call callY yl gc nL an24 k) c24_26) (arun (cxM call callY yl gc nL an24 k) c24_27) fr H := by kernel_rfl
theorem c24_24_run (fr : List AV) (H : Heap) : arun (cxM call callY yl gc nL an24 k) c24_24 fr H = loopU (arun (cxM call callY yl gc nL an24 k) c24_25) gc nL [false, true, true, false, false, true, false, false, false, false, true, true, true, false, false] k fr H := Eq.trans (by kernel_rfl) (loopU_eq _ _ _ _ _ _ _)
theorem c24_23_run (fr : List AV) (H : Heap) : arun (cxM call callY yl gc nL an24 k) c24_23 fr H = blockX 0 (arun (cxM call callY yl gc nL an24 k) c24_24) fr H := by kernel_rfl
theorem c24_21_run (fr : List AV) (H : Heap) : arun (cxM call callY yl gc nL an24 k) c24_21 fr H = seqX (arun (cxM call callY yl gc nL an24 k) c24_22) (arun (cxM call callY yl gc nL an24 k) c24_23) fr H := by kernel_rfl
noncomputable def c24_45 : Code := cR c24_20
noncomputable def c24_46 : Code := cL c24_45
theorem c24_46_run (x0 x1 x2 x6 x7 x8 x9 x10 x13 x28 x29 x30 x31 x32 x43 : AV) (H : Heap) : arun (cxM call callY yl gc nL an24 k) c24_46 [x0, x1, x2, x6, x7, x8, x9, x10, x13, x28, x29, x30, x31, x32, x43] H = (pCall call 0 72 ([] ++ [x8, x2] ++ []) H H.next).bind fun r2 => some (.normal, [x0, x1, x2, r2.1, (.int .i64 0), x8, x9, x10, x13, x28, x29, x30, x31, x32, x43], r2.2.1) :=
  arun_region (by kernel_rfl) (by kernel_rfl)
noncomputable def c24_47 : Code := cR c24_45
theorem c24_47_run (fr : List AV) (H : Heap) : arun (cxM call callY yl gc nL an24 k) c24_47 fr H = some (.ret, fr, H) := by kernel_rfl
theorem c24_45_run (fr : List AV) (H : Heap) : arun (cxM call callY yl gc nL an24 k) c24_45 fr H = seqX (arun (cxM call callY yl gc nL an24 k) c24_46) (arun (cxM call callY yl gc nL an24 k) c24_47) fr H := by kernel_rfl
theorem c24_20_run (fr : List AV) (H : Heap) : arun (cxM call callY yl gc nL an24 k) c24_20 fr H = seqX (arun (cxM call callY yl gc nL an24 k) c24_21) (arun (cxM call callY yl gc nL an24 k) c24_45) fr H := by kernel_rfl
theorem c24_18_run (fr : List AV) (H : Heap) : arun (cxM call callY yl gc nL an24 k) c24_18 fr H = seqX (arun (cxM call callY yl gc nL an24 k) c24_19) (arun (cxM call callY yl gc nL an24 k) c24_20) fr H := by kernel_rfl
theorem c24_10_run (fr : List AV) (H : Heap) : arun (cxM call callY yl gc nL an24 k) c24_10 fr H = seqX (arun (cxM call callY yl gc nL an24 k) c24_11) (arun (cxM call callY yl gc nL an24 k) c24_18) fr H := by kernel_rfl
theorem c24_2_run (fr : List AV) (H : Heap) : arun (cxM call callY yl gc nL an24 k) c24_2 fr H = seqX (arun (cxM call callY yl gc nL an24 k) c24_3) (arun (cxM call callY yl gc nL an24 k) c24_10) fr H := by kernel_rfl
theorem c24_0_run (fr : List AV) (H : Heap) : arun (cxM call callY yl gc nL an24 k) c24_0 fr H = seqX (arun (cxM call callY yl gc nL an24 k) c24_1) (arun (cxM call callY yl gc nL an24 k) c24_2) fr H := by kernel_rfl
noncomputable def fin24 (nL : Nat) (r : ARes) : Option (AV × List ABlk) := finish Try.prog an24 Try.f24.results.toList nL r
theorem f24_eq {h : CallFn} {k : Nat} {x0 x1 x2 : AV} (hh : h 24 [x0, x1, x2] [] = none) : acall Try.prog annOf h (k + 1) 24 [x0, x1, x2] [] = fin24 0 (arun (cxM (acall Try.prog annOf h k) (callYM Try.prog annOf h k) none true 0 an24 k) c24_0 [x0, x1, x2, .undef, .undef, .undef, .undef, .undef, .undef, .undef, .undef, .undef, .undef, .undef, .undef] ⟨0, [], []⟩) :=
  acall_eq (fn := Try.f24) (c := c24_0) (by kernel_rfl) (by kernel_rfl) (Nat.le_of_ble_eq_true (by kernel_rfl)) hh
theorem f24_eqL {h : CallFn} {k : Nat} {x0 x1 x2 : AV} {L : List ABlk} (hh : h 24 [x0, x1, x2] L = none) : acall Try.prog annOf h (k + 1) 24 [x0, x1, x2] L = fin24 L.length (arun (cxM (acall Try.prog annOf h k) (callYM Try.prog annOf h k) none true L.length an24 k) c24_0 [x0, x1, x2, .undef, .undef, .undef, .undef, .undef, .undef, .undef, .undef, .undef, .undef, .undef, .undef] { heapOf L with outer := [] }) :=
  acall_eq (fn := Try.f24) (c := c24_0) (by kernel_rfl) (by kernel_rfl) (Nat.le_of_ble_eq_true (by kernel_rfl)) hh
theorem f24_fin_ret {y0 y1 y2 y6 y7 y8 y9 y10 y13 y28 y29 y30 y31 y32 y43 : AV} {H : Heap} {nL : Nat} : fin24 nL (some (.ret, [y0, y1, y2, y6, y7, y8, y9, y10, y13, y28, y29, y30, y31, y32, y43], H)) = (aret an24.frz nL (.tup [y6, y7]) H).bind fun r => if H.outer.isEmpty then some r else none := by kernel_rfl
theorem f24_fin_normal {y0 y1 y2 y6 y7 y8 y9 y10 y13 y28 y29 y30 y31 y32 y43 : AV} {H : Heap} {nL : Nat} : fin24 nL (some (.normal, [y0, y1, y2, y6, y7, y8, y9, y10, y13, y28, y29, y30, y31, y32, y43], H)) = (aret an24.frz nL (.tup [y6, y7]) H).bind fun r => if H.outer.isEmpty then some r else none := by kernel_rfl
noncomputable def c25_0 : Code := cBody Try.f25
noncomputable def c25_1 : Code := cL c25_0
theorem c25_1_run (x0 x1 x2 x6 x7 x8 x9 x10 x11 x12 x13 x14 x15 x16 x31 x42 x49 x79 : AV) (H : Heap) : arun (cxM call callY yl gc nL an25 k) c25_1 [x0, x1, x2, x6, x7, x8, x9, x10, x11, x12, x13, x14, x15, x16, x31, x42, x49, x79] H = some (.normal, [x0, x1, x2, .nils, (.int .i64 0), x8, x9, x10, x11, x12, x13, x14, x15, x16, x31, x42, x49, x79], H) :=
  arun_region (by kernel_rfl) (by kernel_rfl)
noncomputable def c25_2 : Code := cR c25_0
noncomputable def c25_3 : Code := cL c25_2
noncomputable def c25_4 : Code := cL c25_3
noncomputable def c25_5 : Code := cL c25_4
noncomputable def c25_5_k1 (x0 : AV) (x1 : AV) (x2 : AV) (x6 : AV) (x7 : AV) (x8 : AV) (x9 : AV) (x10 : AV) (x11 : AV) (x12 : AV) (x13 : AV) (x14 : AV) (x15 : AV) (x16 : AV) (x42 : AV) (x49 : AV) (x79 : AV) (y8 : AV) (q7 : Q4) : ARes := (gd y8 false (some ((x2, q7.2.1, [], []) : Q4)) ((.tup [], q7.2.1, [], []) : Q4)).bind fun q10 => (gd y8 false (some ((x1, q10.2.1, [], []) : Q4)) ((.tup [], q10.2.1, [], []) : Q4)).bind fun q11 => (gd y8 false ((pCall call 0 54 ([] ++ [q10.1, (.int .i64 0), q11.1] ++ []) q11.2.1 q11.2.1.next).bind fun r12 => some ((r12.1, r12.2.1, r12.2.2.1, r12.2.2.2) : Q4)) ((.tup [], q11.2.1, [], []) : Q4)).bind fun q12 => (gd y8 false ((pUn .not q12.1).bind fun y9 => some ((y9, q12.2.1, [], []) : Q4)) ((.tup [], q12.2.1, [], []) : Q4)).bind fun q13 => (pPick y8 (.bool true) q13.1).bind fun y14 => some (.normal, [x0, x1, x2, x6, x7, x8, x9, x10, x11, x12, x13, x14, x15, x16, y14, x42, x49, x79], q13.2.1)
noncomputable def c25_5_k2 (x0 : AV) (x1 : AV) (x2 : AV) (x6 : AV) (x7 : AV) (x8 : AV) (x9 : AV) (x10 : AV) (x11 : AV) (x12 : AV) (x13 : AV) (x14 : AV) (x15 : AV) (x16 : AV) (x42 : AV) (x49 : AV) (x79 : AV) (y2 : AV) (q4 : Q4) : ARes := (gd y2 false (some ((x0, q4.2.1, [], []) : Q4)) ((.tup [], q4.2.1, [], []) : Q4)).bind fun q5 => (gd y2 false ((pCall call 0 54 ([] ++ [q4.1, (.int .i64 1), q5.1] ++ []) q5.2.1 q5.2.1.next).bind fun r6 => some ((r6.1, r6.2.1, r6.2.2.1, r6.2.2.2) : Q4)) ((.tup [], q5.2.1, [], []) : Q4)).bind fun q6 => (gd y2 false ((pUn .not q6.1).bind fun y3 => some ((y3, q6.2.1, [], []) : Q4)) ((.tup [], q6.2.1, [], []) : Q4)).bind fun q7 => (pPick y2 (.bool true) q7.1).bind fun y8 => (c25_5_k1 (call := call) x0 x1 x2 x6 x7 x8 x9 x10 x11 x12 x13 x14 x15 x16 x42 x49 x79 y8 q7)
theorem c25_5_run (x0 x1 x2 x6 x7 x8 x9 x10 x11 x12 x13 x14 x15 x16 x31 x42 x49 x79 : AV) (H : Heap) : arun (cxM call callY yl gc nL an25 k) c25_5 [x0, x1, x2, x6, x7, x8, x9, x10, x11, x12, x13, x14, x15, x16, x31, x42, x49, x79] H = (pCall call 0 54 ([] ++ [x0, (.int .i64 1), (.int .i64 200)] ++ []) H H.next).bind fun r1 => (pUn .not r1.1).bind fun y2 => (gd y2 false (some ((x1, r1.2.1, [], []) : Q4)) ((.tup [], r1.2.1, [], []) : Q4)).bind fun q4 => (c25_5_k2 (call := call) x0 x1 x2 x6 x7 x8 x9 x10 x11 x12 x13 x14 x15 x16 x42 x49 x79 y2 q4) :=
  arun_region (by kernel_rfl) (by kernel_rfl)
noncomputable def c25_6 : Code := cR c25_4
noncomputable def c25_7 : Code := cL c25_6
noncomputable def c25_8 : Code := cL c25_7
theorem c25_8_run (x0 x1 x2 x6 x7 x8 x9 x10 x11 x12 x13 x14 x15 x16 x31 x42 x49 x79 : AV) (H : Heap) : arun (cxM call callY yl gc nL an25 k) c25_8 [x0, x1, x2, x6, x7, x8, x9, x10, x11, x12, x13, x14, x15, x16, x31, x42, x49, x79] H = some (.normal, [x0, x1, x2, .nils, (.int .i64 1), x8, x9, x10, x11, x12, x13, x14, x15, x16, x31, x42, x49, x79], H) :=
  arun_region (by kernel_rfl) (by kernel_rfl)
noncomputable def c25_9 : Code := cR c25_7
theorem c25_9_run (fr : List AV) (H : Heap) : arun (cxM call callY yl gc nL an25 k) c25_9 fr H = some (.ret, fr, H) := by kernel_rfl
theorem c25_7_run (fr : List AV) (H : Heap) : arun (cxM call callY yl gc nL an25 k) c25_7 fr H = seqX (arun (cxM call callY yl gc nL an25 k) c25_8) (arun (cxM call callY yl gc nL an25 k) c25_9) fr H := by kernel_rfl
noncomputable def c25_10 : Code := cR c25_6
theorem c25_10_run (fr : List AV) (H : Heap) : arun (cxM call callY yl gc nL an25 k) c25_10 fr H = some (.normal, fr, H) := by kernel_rfl
theorem c25_6_run (x0 x1 x2 x6 x7 x8 x9 x10 x11 x12 x13 x14 x15 x16 x31 x42 x49 x79 : AV) (H : Heap) : arun (cxM call callY yl gc nL an25 k) c25_6 [x0, x1, x2, x6, x7, x8, x9, x10, x11, x12, x13, x14, x15, x16, x31, x42, x49, x79] H = condX x31 (arun (cxM call callY yl gc nL an25 k) c25_7) (arun (cxM call callY yl gc nL an25 k) c25_10) [x0, x1, x2, x6, x7, x8, x9, x10, x11, x12, x13, x14, x15, x16, x31, x42, x49, x79] H := by kernel_rfl
theorem c25_4_run (fr : List AV) (H : Heap) : arun (cxM call callY yl gc nL an25 k) c25_4 fr H = seqX (arun (cxM call callY yl gc nL an25 k) c25_5) (arun (cxM call callY yl gc nL an25 k) c25_6) fr H := by kernel_rfl
noncomputable def c25_11 : Code := cR c25_3
noncomputable def c25_12 : Code := cL c25_11
theorem c25_12_run (x0 x1 x2 x6 x7 x8 x9 x10 x11 x12 x13 x14 x15 x16 x31 x42 x49 x79 : AV) (H : Heap) : arun (cxM call callY yl gc nL an25 k) c25_12 [x0, x1, x2, x6, x7, x8, x9, x10, x11, x12, x13, x14, x15, x16, x31, x42, x49, x79] H = (pBuild Try.prog 146 [(0, x0), (1, x1), (2, x2)]).bind fun y3 => (zero? Try.prog 146).bind fun z4 => (pStore Try.prog 146 (.hp H.next 0) y3 (H.put H.next (.cells z4.cells))).bind fun h5 => some (.normal, [x0, x1, x2, x6, x7, (.hp H.next 0), x9, x10, x11, x12, x13, x14, x15, x16, x31, x42, x49, x79], h5) :=
  arun_region (by kernel_rfl) (by kernel_rfl)
noncomputable def c25_13 : Code := cR c25_11
noncomputable def c25_14 : Code := cL c25_13
theorem c25_14_run (x0 x1 x2 x6 x7 x8 x9 x10 x11 x12 x13 x14 x15 x16 x31 x42 x49 x79 : AV) (H : Heap) : arun (cxM call callY yl gc nL an25 k) c25_14 [x0, x1, x2, x6, x7, x8, x9, x10, x11, x12, x13, x14, x15, x16, x31, x42, x49, x79] H = (pLoad Try.prog 146 x8 H).bind fun y0 => (pCall call 0 73 ([] ++ [y0] ++ []) H H.next).bind fun r1 => (pExtract r1.1 0).bind fun y3 => (pExtract r1.1 1).bind fun y4 => some (.normal, [x0, x1, x2, x6, x7, x8, y3, y4, x11, x12, x13, x14, x15, x16, x31, x42, x49, x79], r1.2.1) :=
  arun_region (by kernel_rfl) (by kernel_rfl)
noncomputable def c25_15 : Code := cR c25_13
noncomputable def c25_16 : Code := cL c25_15
noncomputable def c25_17 : Code := cL c25_16
theorem c25_17_run (x0 x1 x2 x6 x7 x8 x9 x10 x11 x12 x13 x14 x15 x16 x31 x42 x49 x79 : AV) (H : Heap) : arun (cxM call callY yl gc nL an25 k) c25_17 [x0, x1, x2, x6, x7, x8, x9, x10, x11, x12, x13, x14, x15, x16, x31, x42, x49, x79] H = (pUn .not x10).bind fun y1 => some (.normal, [x0, x1, x2, x6, x7, x8, x9, x10, x11, x12, x13, x14, x15, x16, x31, y1, x49, x79], H) :=
  arun_region (by kernel_rfl) (by kernel_rfl)
noncomputable def c25_18 : Code := cR c25_16
noncomputable def c25_19 : Code := cL c25_18
noncomputable def c25_20 : Code := cL c25_19
theorem c25_20_run (x0 x1 x2 x6 x7 x8 x9 x10 x11 x12 x13 x14 x15 x16 x31 x42 x49 x79 : AV) (H : Heap) : arun (cxM call callY yl gc nL an25 k) c25_20 [x0, x1, x2, x6, x7, x8, x9, x10, x11, x12, x13, x14, x15, x16, x31, x42, x49, x79] H = some (.normal, [x0, x1, x2, .nils, (.int .i64 4), x8, x9, x10, x11, x12, x13, x14, x15, x16, x31, x42, x49, x79], H) :=
  arun_region (by kernel_rfl) (by kernel_rfl)
noncomputable def c25_21 : Code := cR c25_19
theorem c25_21_run (fr : List AV) (H : Heap) : arun (cxM call callY yl gc nL an25 k) c25_21 fr H = some (.ret, fr, H) := by kernel_rfl
theorem c25_19_run (fr : List AV) (H : Heap) : arun (cxM call callY yl gc nL an25 k) c25_19 fr H = seqX (arun (cxM call callY yl gc nL an25 k) c25_20) (arun (cxM call callY yl gc nL an25 k) c25_21) fr H := by kernel_rfl
noncomputable def c25_22 : Code := cR c25_18
theorem c25_22_run (fr : List AV) (H : Heap) : arun (cxM call callY yl gc nL an25 k) c25_22 fr H = some (.normal, fr, H) := by kernel_rfl
theorem c25_18_run (x0 x1 x2 x6 x7 x8 x9 x10 x11 x12 x13 x14 x15 x16 x31 x42 x49 x79 : AV) (H : Heap) : arun (cxM call callY yl gc nL an25 k) c25_18 [x0, x1, x2, x6, x7, x8, x9, x10, x11, x12, x13, x14, x15, x16, x31, x42, x49, x79] H = condX x42 (arun (cxM call callY yl gc nL an25 k) c25_19) (arun (cxM call callY yl gc nL an25 k) c25_22) [x0, x1, x2, x6, x7, x8, x9, x10, x11, x12, x13, x14, x15, x16, x31, x42, x49, x79] H := by kernel_rfl
theorem c25_16_run (fr : List AV) (H : Heap) : arun (cxM call callY yl gc nL an25 k) c25_16 fr H = seqX (arun (cxM call callY yl gc nL an25 k) c25_17) (arun (cxM call callY yl gc nL an25 k) c25_18) fr H := by kernel_rfl
noncomputable def c25_23 : Code := cR c25_15
noncomputable def c25_24 : Code := cL c25_23
theorem c25_24_run (x0 x1 x2 x6 x7 x8 x9 x10 x11 x12 x13 x14 x15 x16 x31 x42 x49 x79 : AV) (H : Heap) : arun (cxM call callY yl gc nL an25 k) c25_24 [x0, x1, x2, x6, x7, x8, x9, x10, x11, x12, x13, x14, x15, x16, x31, x42, x49, x79] H = (pLoad Try.prog 146 x8 H).bind fun y0 => (pCall call 0 74 ([] ++ [y0, x9] ++ []) H H.next).bind fun r2 => some (.normal, [x0, x1, x2, x6, x7, x8, x9, x10, r2.1, x12, x13, x14, x15, x16, x31, x42, x49, x79], r2.2.1) :=
  arun_region (by kernel_rfl) (by kernel_rfl)
noncomputable def c25_25 : Code := cR c25_23
noncomputable def c25_26 : Code := cL c25_25
theorem c25_26_run (x0 x1 x2 x6 x7 x8 x9 x10 x11 x12 x13 x14 x15 x16 x31 x42 x49 x79 : AV) (H : Heap) : arun (cxM call callY yl gc nL an25 k) c25_26 [x0, x1, x2, x6, x7, x8, x9, x10, x11, x12, x13, x14, x15, x16, x31, x42, x49, x79] H = (accOf Try.prog 22 .nils H.next H).bind fun p0 => some (.normal, [x0, x1, x2, x6, x7, x8, x9, x10, x11, p0.1, x13, x14, x15, x16, x31, x42, x49, x79], p0.2) :=
  arun_region (by kernel_rfl) (by kernel_rfl)
noncomputable def c25_27 : Code := cR c25_25
noncomputable def c25_28 : Code := cL c25_27
theorem c25_28_run (x0 x1 x2 x6 x7 x8 x9 x10 x11 x12 x13 x14 x15 x16 x31 x42 x49 x79 : AV) (H : Heap) : arun (cxM call callY yl gc nL an25 k) c25_28 [x0, x1, x2, x6, x7, x8, x9, x10, x11, x12, x13, x14, x15, x16, x31, x42, x49, x79] H = some (.normal, [x0, x1, x2, x6, x7, x8, x9, x10, x11, x12, (.int .i64 0), (.int .i64 0), x15, x16, x31, x42, x49, x79], H) :=
  arun_region (by kernel_rfl) (by kernel_rfl)
noncomputable def c25_29 : Code := cR c25_27
noncomputable def c25_30 : Code := cL c25_29
theorem c25_30_run (fr : List AV) (H : Heap) : arun (cxM call callY yl gc nL an25 k) c25_30 fr H = some (.normal, fr, H) := by kernel_rfl
noncomputable def c25_31 : Code := cR c25_29
noncomputable def c25_32 : Code := cL c25_31
noncomputable def c25_33 : Code := cL c25_32
noncomputable def c25_34 : Code := cL c25_33
noncomputable def c25_35 : Code := cL c25_34
noncomputable def c25_36 : Code := cL c25_35
noncomputable def c25_37 : Code := cL c25_36
theorem c25_37_run (x0 x1 x2 x6 x7 x8 x9 x10 x11 x12 x13 x14 x15 x16 x31 x42 x49 x79 : AV) (H : Heap) : arun (cxM call callY yl gc nL an25 k) c25_37 [x0, x1, x2, x6, x7, x8, x9, x10, x11, x12, x13, x14, x15, x16, x31, x42, x49, x79] H = (pLen Try.prog 22 x12 H).bind fun y1 => (pBin Try.prog .eql 3 y1 x9 H).bind fun y3 => some (.normal, [x0, x1, x2, x6, x7, x8, x9, x10, x11, x12, x13, x14, x15, x16, x31, x42, y3, x79], H) :=
  arun_region (by kernel_rfl) (by kernel_rfl)
noncomputable def c25_38 : Code := cR c25_36
noncomputable def c25_39 : Code := cL c25_38
theorem c25_39_run (fr : List AV) (H : Heap) : arun (cxM call callY yl gc nL an25 k) c25_39 fr H = some (.exit 0, fr, H) := by kernel_rfl
noncomputable def c25_40 : Code := cR c25_38
theorem c25_40_run (fr : List AV) (H : Heap) : arun (cxM call callY yl gc nL an25 k) c25_40 fr H = some (.normal, fr, H) := by kernel_rfl
theorem c25_38_run (x0 x1 x2 x6 x7 x8 x9 x10 x11 x12 x13 x14 x15 x16 x31 x42 x49 x79 : AV) (H : Heap) : arun (cxM call callY yl gc nL an25 k) c25_38 [x0, x1, x2, x6, x7, x8, x9, x10, x11, x12, x13, x14, x15, x16, x31, x42, x49, x79] H = condX x49 (arun (cxM call callY yl gc nL an25 k) c25_39) (arun (cxM call callY yl gc nL an25 k) c25_40) [x0, x1, x2, x6, x7, x8, x9, x10, x11, x12, x13, x14, x15, x16, x31, x42, x49, x79] H := by kernel_rfl
theorem c25_36_run (fr : List AV) (H : Heap) : arun (cxM call callY yl gc nL an25 k) c25_36 fr H = seqX (arun (cxM call callY yl gc nL an25 k) c25_37) (arun (cxM call callY yl gc nL an25 k) c25_38) fr H := by kernel_rfl
noncomputable def c25_41 : Code := cR c25_35
noncomputable def c25_42 : Code := cL c25_41
theorem c25_42_run (x0 x1 x2 x6 x7 x8 x9 x10 x11 x12 x13 x14 x15 x16 x31 x42 x49 x79 : AV) (H : Heap) : arun (cxM call callY yl gc nL an25 k) c25_42 [x0, x1, x2, x6, x7, x8, x9, x10, x11, x12, x13, x14, x15, x16, x31, x42, x49, x79] H = (pLen Try.prog 22 x12 H).bind fun y1 => some (.normal, [x0, x1, x2, x6, x7, x8, x9, x10, x11, x12, x13, x14, y1, (.int .i64 1), x31, x42, x49, x79], H) :=
  arun_region (by kernel_rfl) (by kernel_rfl)
noncomputable def c25_43 : Code := cR c25_41
noncomputable def c25_44 : Code := cL c25_43
noncomputable def c25_45 : Code := cL c25_44
noncomputable def c25_46 : Code := cL c25_45
noncomputable def c25_47 : Code := cL c25_46
noncomputable def c25_48 : Code := cL c25_47
noncomputable def c25_48_k1 (x0 : AV) (x1 : AV) (x2 : AV) (x6 : AV) (x7 : AV) (x8 : AV) (x9 : AV) (x10 : AV) (x11 : AV) (x12 : AV) (x13 : AV) (x14 : AV) (x15 : AV) (x16 : AV) (x31 : AV) (x42 : AV) (x49 : AV) (H : Heap) (q7 : Q4) (q24 : Q4) (d24 : List (Nat × List Nat × List Nat)) : ARes := (gd q7.1 false ((pLoad Try.prog 4 q24.1 q24.2.1).bind fun v => some ((v, q24.2.1, (rdOf q24.1), []) : Q4)) ((.tup [], q24.2.1, [], []) : Q4)).bind fun q25 => okp 33554431 25 q25 d24 fun d25 => (gd q7.1 false ((pUn .not q25.1).bind fun v => some ((v, q25.2.1, [], []) : Q4)) ((.tup [], q25.2.1, [], []) : Q4)).bind fun q26 => okp 67108863 26 q26 d25 fun d26 => ((pPick q7.1 (.bool true) q26.1).bind fun v => some ((v, q26.2.1, [], []) : Q4)).bind fun q27 => okp 134217727 27 q27 d26 fun d27 => some (.normal, [x0, x1, x2, x6, x7, x8, x9, x10, x11, x12, x13, x14, x15, x16, x31, x42, x49, q27.1], (q27.2.1.atLeast (H.next + 8 * 28)))
noncomputable def c25_48_k2 (x0 : AV) (x1 : AV) (x2 : AV) (x6 : AV) (x7 : AV) (x8 : AV) (x9 : AV) (x10 : AV) (x11 : AV) (x12 : AV) (x13 : AV) (x14 : AV) (x15 : AV) (x16 : AV) (x31 : AV) (x42 : AV) (x49 : AV) (H : Heap) (q7 : Q4) (q17 : Q4) (q18 : Q4) (q19 : Q4) (d19 : List (Nat × List Nat × List Nat)) : ARes := (gd q7.1 false (some ((x15, q19.2.1, [], []) : Q4)) ((.tup [], q19.2.1, [], []) : Q4)).bind fun q20 => okp 255 20 q20 d19 fun d20 => (gd q7.1 false ((pCall call 0 71 ([] ++ [q18.1, q19.1, q20.1] ++ []) q20.2.1 (H.next + 8 * 21)).bind fun r21 => some ((r21.1, r21.2.1, r21.2.2.1, r21.2.2.2) : Q4)) ((.tup [], q20.2.1, [], []) : Q4)).bind fun q21 => okp 1835263 21 q21 d20 fun d21 => (gd q7.1 false (some ((x1, q21.2.1, [], []) : Q4)) ((.tup [], q21.2.1, [], []) : Q4)).bind fun q22 => okp 255 22 q22 d21 fun d22 => (gd q7.1 false ((pBin Try.prog .add 3 q21.1 q22.1 q22.2.1).bind fun v => some ((v, q22.2.1, (rdOf q21.1), []) : Q4)) ((.tup [], q22.2.1, [], []) : Q4)).bind fun q23 => okp 8126719 23 q23 d22 fun d23 => (gd q7.1 false ((pIndexAddr Try.prog 42 q17.1 q23.1 q23.2.1).bind fun v => some ((v, q23.2.1, (rdOf q17.1), []) : Q4)) ((.tup [], q23.2.1, [], []) : Q4)).bind fun q24 => okp 16777215 24 q24 d23 fun d24 => (c25_48_k1 x0 x1 x2 x6 x7 x8 x9 x10 x11 x12 x13 x14 x15 x16 x31 x42 x49 H q7 q24 d24)
noncomputable def c25_48_k3 (x0 : AV) (x1 : AV) (x2 : AV) (x6 : AV) (x7 : AV) (x8 : AV) (x9 : AV) (x10 : AV) (x11 : AV) (x12 : AV) (x13 : AV) (x14 : AV) (x15 : AV) (x16 : AV) (x31 : AV) (x42 : AV) (x49 : AV) (H : Heap) (q7 : Q4) (q12 : Q4) (q13 : Q4) (q14 : Q4) (d14 : List (Nat × List Nat × List Nat)) : ARes := (gd q7.1 false ((pBin Try.prog .add 3 q13.1 q14.1 q14.2.1).bind fun v => some ((v, q14.2.1, (rdOf q13.1), []) : Q4)) ((.tup [], q14.2.1, [], []) : Q4)).bind fun q15 => okp 24831 15 q15 d14 fun d15 => (gd q7.1 false ((pIndexAddr Try.prog 151 q12.1 q15.1 q15.2.1).bind fun v => some ((v, q15.2.1, (rdOf q12.1), []) : Q4)) ((.tup [], q15.2.1, [], []) : Q4)).bind fun q16 => okp 65535 16 q16 d15 fun d16 => (gd q7.1 false ((pLoad Try.prog 42 q16.1 q16.2.1).bind fun v => some ((v, q16.2.1, (rdOf q16.1), []) : Q4)) ((.tup [], q16.2.1, [], []) : Q4)).bind fun q17 => okp 131071 17 q17 d16 fun d17 => (gd q7.1 false (some ((x14, q17.2.1, [], []) : Q4)) ((.tup [], q17.2.1, [], []) : Q4)).bind fun q18 => okp 255 18 q18 d17 fun d18 => (gd q7.1 false (some ((x16, q18.2.1, [], []) : Q4)) ((.tup [], q18.2.1, [], []) : Q4)).bind fun q19 => okp 255 19 q19 d18 fun d19 => (c25_48_k2 (call := call) x0 x1 x2 x6 x7 x8 x9 x10 x11 x12 x13 x14 x15 x16 x31 x42 x49 H q7 q17 q18 q19 d19)
noncomputable def c25_48_k4 (x0 : AV) (x1 : AV) (x2 : AV) (x6 : AV) (x7 : AV) (x8 : AV) (x9 : AV) (x10 : AV) (x11 : AV) (x12 : AV) (x13 : AV) (x14 : AV) (x15 : AV) (x16 : AV) (x31 : AV) (x42 : AV) (x49 : AV) (H : Heap) (q7 : Q4) (q8 : Q4) (q9 : Q4) (d9 : List (Nat × List Nat × List Nat)) : ARes := (gd q7.1 false ((pBin Try.prog .add 3 q9.1 (.int .i64 1) q9.2.1).bind fun v => some ((v, q9.2.1, (rdOf q9.1), []) : Q4)) ((.tup [], q9.2.1, [], []) : Q4)).bind fun q10 => okp 767 10 q10 d9 fun d10 => (gd q7.1 false ((pIndexAddr Try.prog 149 q8.1 q10.1 q10.2.1).bind fun v => some ((v, q10.2.1, (rdOf q8.1), []) : Q4)) ((.tup [], q10.2.1, [], []) : Q4)).bind fun q11 => okp 2047 11 q11 d10 fun d11 => (gd q7.1 false ((pLoad Try.prog 151 q11.1 q11.2.1).bind fun v => some ((v, q11.2.1, (rdOf q11.1), []) : Q4)) ((.tup [], q11.2.1, [], []) : Q4)).bind fun q12 => okp 4095 12 q12 d11 fun d12 => (gd q7.1 false (some ((x13, q12.2.1, [], []) : Q4)) ((.tup [], q12.2.1, [], []) : Q4)).bind fun q13 => okp 255 13 q13 d12 fun d13 => (gd q7.1 false (some ((x16, q13.2.1, [], []) : Q4)) ((.tup [], q13.2.1, [], []) : Q4)).bind fun q14 => okp 255 14 q14 d13 fun d14 => (c25_48_k3 (call := call) x0 x1 x2 x6 x7 x8 x9 x10 x11 x12 x13 x14 x15 x16 x31 x42 x49 H q7 q12 q13 q14 d14)
noncomputable def c25_48_k5 (x0 : AV) (x1 : AV) (x2 : AV) (x6 : AV) (x7 : AV) (x8 : AV) (x9 : AV) (x10 : AV) (x11 : AV) (x12 : AV) (x13 : AV) (x14 : AV) (x15 : AV) (x16 : AV) (x31 : AV) (x42 : AV) (x49 : AV) (H : Heap) (q3 : Q4) (q4 : Q4) (d4 : List (Nat × List Nat × List Nat)) : ARes := ((pCall call 0 72 ([] ++ [q3.1, q4.1] ++ []) q4.2.1 (H.next + 8 * 5)).bind fun r5 => some ((r5.1, r5.2.1, r5.2.2.1, r5.2.2.2) : Q4)).bind fun q5 => okp 31 5 q5 d4 fun d5 => ((pUn .not q5.1).bind fun v => some ((v, q5.2.1, [], []) : Q4)).bind fun q6 => okp 63 6 q6 d5 fun d6 => (some ((q6.1, q6.2.1, [], []) : Q4)).bind fun q7 => okp 127 7 q7 d6 fun d7 => (gd q7.1 false (some ((x11, q7.2.1, [], []) : Q4)) ((.tup [], q7.2.1, [], []) : Q4)).bind fun q8 => okp 255 8 q8 d7 fun d8 => (gd q7.1 false (some ((x15, q8.2.1, [], []) : Q4)) ((.tup [], q8.2.1, [], []) : Q4)).bind fun q9 => okp 255 9 q9 d8 fun d9 => (c25_48_k4 (call := call) x0 x1 x2 x6 x7 x8 x9 x10 x11 x12 x13 x14 x15 x16 x31 x42 x49 H q7 q8 q9 d9)
theorem c25_48_run (x0 x1 x2 x6 x7 x8 x9 x10 x11 x12 x13 x14 x15 x16 x31 x42 x49 x79 : AV) (H : Heap) : arun (cxM call callY yl gc nL an25 k) c25_48 [x0, x1, x2, x6, x7, x8, x9, x10, x11, x12, x13, x14, x15, x16, x31, x42, x49, x79] H = (some ((x14, H, [], []) : Q4)).bind fun q0 => okp 0 0 q0 [] fun d0 => (some ((x16, q0.2.1, [], []) : Q4)).bind fun q1 => okp 0 1 q1 d0 fun d1 => (some ((x15, q1.2.1, [], []) : Q4)).bind fun q2 => okp 0 2 q2 d1 fun d2 => ((pCall call 0 71 ([] ++ [q0.1, q1.1, q2.1] ++ []) q2.2.1 (H.next + 8 * 3)).bind fun r3 => some ((r3.1, r3.2.1, r3.2.2.1, r3.2.2.2) : Q4)).bind fun q3 => okp 7 3 q3 d2 fun d3 => (some ((x1, q3.2.1, [], []) : Q4)).bind fun q4 => okp 0 4 q4 d3 fun d4 => (c25_48_k5 (call := call) x0 x1 x2 x6 x7 x8 x9 x10 x11 x12 x13 x14 x15 x16 x31 x42 x49 H q3 q4 d4) :=
  arun_region (by kernel_rfl) (by kernel_rfl)
noncomputable def c25_49 : Code := cR c25_47
noncomputable def c25_50 : Code := cL c25_49
theorem c25_50_run (fr : List AV) (H : Heap) : arun (cxM call callY yl gc nL an25 k) c25_50 fr H = some (.normal, fr, H) := by kernel_rfl
noncomputable def c25_51 : Code := cR c25_49
theorem c25_51_run (fr : List AV) (H : Heap) : arun (cxM call callY yl gc nL an25 k) c25_51 fr H = some (.exit 2, fr, H) := by kernel_rfl
theorem c25_49_run (x0 x1 x2 x6 x7 x8 x9 x10 x11 x12 x13 x14 x15 x16 x31 x42 x49 x79 : AV) (H : Heap) : arun (cxM call callY yl gc nL an25 k) c25_49 [x0, x1, x2, x6, x7, x8, x9, x10, x11, x12, x13, x14, x15, x16, x31, x42, x49, x79] H = condX x79 (arun (cxM call callY yl gc nL an25 k) c25_50) (arun (cxM call callY yl gc nL an25 k) c25_51) [x0, x1, x2, x6, x7, x8, x9, x10, x11, x12, x13, x14, x15, x16, x31, x42, x49, x79] H := by kernel_rfl
theorem c25_47_run (fr : List AV) (H : Heap) : arun (cxM call callY yl gc nL an25 k) c25_47 fr H = seqX (arun (cxM call callY yl gc nL an25 k) c25_48) (arun (cxM call callY yl gc nL an25 k) c25_49) fr H := by kernel_rfl
noncomputable def c25_52 : Code := cR c25_46
noncomputable def c25_53 : Code := cL c25_52
theorem c25_53_run (x0 x1 x2 x6 x7 x8 x9 x10 x11 x12 x13 x14 x15 x16 x31 x42 x49 x79 : AV) (H : Heap) : arun (cxM call callY yl gc nL an25 k) c25_53 [x0, x1, x2, x6, x7, x8, x9, x10, x11, x12, x13, x14, x15, x16, x31, x42, x49, x79] H = (pBin Try.prog .add 3 x16 (.int .i64 1) H).bind fun y1 => some (.normal, [x0, x1, x2, x6, x7, x8, x9, x10, x11, x12, x13, x14, x15, y1, x31, x42, x49, x79], H) :=
  arun_region (by kernel_rfl) (by kernel_rfl)
theorem c25_52_run (fr : List AV) (H : Heap) : arun (cxM call callY yl gc nL an25 k) c25_52 fr H = blockX 3 (arun (cxM call callY yl gc nL an25 k) c25_53) fr H := by kernel_rfl
theorem c25_46_run (fr : List AV) (H : Heap) : arun (cxM call callY yl gc nL an25 k) c25_46 fr H = seqX (arun (cxM call callY yl gc nL an25 k) c25_47) (arun (cxM call callY yl gc nL an25 k) c25_52) fr H := by kernel_rfl
theorem c25_45_run (fr : List AV) (H : Heap) : arun (cxM call callY yl gc nL an25 k) c25_45 fr H = loopU (arun (cxM call callY yl gc nL an25 k) c25_46) gc nL [false, true, false, false, false, false, true, false, true, true, true, true, true, true, false, false, false, false] k fr H := Eq.trans (by kernel_rfl) (loopU_eq _ _ _ _ _ _ _)
theorem c25_44_run (fr : List AV) (H : Heap) : arun (cxM call callY yl gc nL an25 k) c25_44 fr H = blockX 2 (arun (cxM call callY yl gc nL an25 k) c25_45) fr H := by kernel_rfl
noncomputable def c25_54 : Code := cR c25_43
noncomputable def c25_55 : Code := cL c25_54
theorem c25_55_run (x0 x1 x2 x6 x7 x8 x9 x10 x11 x12 x13 x14 x15 x16 x31 x42 x49 x79 : AV) (H : Heap) : arun (cxM call callY yl gc nL an25 k) c25_55 [x0, x1, x2, x6, x7, x8, x9, x10, x11, x12, x13, x14, x15, x16, x31, x42, x49, x79] H = (pLit Try.prog 22 1 [(0, x16)]).bind fun m2 => (pAppend Try.prog 22 22 x12 (pRow 0 m2.1 m2.2 H.next H).1 (pRow 0 m2.1 m2.2 H.next H).2.next (pRow 0 m2.1 m2.2 H.next H).2).bind fun p3 => some (.normal, [x0, x1, x2, x6, x7, x8, x9, x10, x11, p3.1, x13, x14, x15, x16, x31, x42, x49, x79], p3.2) :=
  arun_region (by kernel_rfl) (by kernel_rfl)
noncomputable def c25_56 : Code := cR c25_54
noncomputable def c25_56_k1 (x0 : AV) (x1 : AV) (x2 : AV) (x6 : AV) (x7 : AV) (x8 : AV) (x9 : AV) (x10 : AV) (x11 : AV) (x12 : AV) (x14 : AV) (x15 : AV) (x16 : AV) (x31 : AV) (x42 : AV) (x49 : AV) (x79 : AV) (H : Heap) (y2 : AV) : ARes := (pCall call 0 71 ([] ++ [x14, x16, x15] ++ []) H H.next).bind fun r6 => some (.normal, [x0, x1, x2, x6, x7, x8, x9, x10, x11, x12, y2, r6.1, x15, x16, x31, x42, x49, x79], r6.2.1)
theorem c25_56_run (x0 x1 x2 x6 x7 x8 x9 x10 x11 x12 x13 x14 x15 x16 x31 x42 x49 x79 : AV) (H : Heap) : arun (cxM call callY yl gc nL an25 k) c25_56 [x0, x1, x2, x6, x7, x8, x9, x10, x11, x12, x13, x14, x15, x16, x31, x42, x49, x79] H = (pBin Try.prog .add 3 x13 x16 H).bind fun y2 => (c25_56_k1 (call := call) x0 x1 x2 x6 x7 x8 x9 x10 x11 x12 x14 x15 x16 x31 x42 x49 x79 H y2) :=
  arun_region (by kernel_rfl) (by kernel_rfl)
theorem c25_54_run (fr : List AV) (H : Heap) : arun (cxM call callY yl gc nL an25 k) c25_54 fr H = seqX (arun (cxM call callY yl gc nL an25 k) c25_55) (arun (cxM call callY yl gc nL an25 k) c25_56) fr H := by kernel_rfl
theorem c25_43_run (fr : List AV) (H : Heap) : arun (cxM call callY yl gc nL an25 k) c25_43 fr H = seqX (arun (cxM call callY yl gc nL an25 k) c25_44) (arun (cxM call callY yl gc nL an25 k) c25_54) fr H := by kernel_rfl
theorem c25_41_run (fr : List AV) (H : Heap) : arun (cxM call callY yl gc nL an25 k) c25_41 fr H = seqX (arun (cxM call callY yl gc nL an25 k) c25_42) (arun (cxM call callY yl gc nL an25 k) c25_43) fr H := by kernel_rfl
theorem c25_35_run (fr : List AV) (H : Heap) : arun (cxM call callY yl gc nL an25 k) c25_35 fr H = seqX (arun (cxM call callY yl gc nL an25 k) c25_36) (arun (cxM call callY yl gc nL an25 k) c25_41) fr H := by kernel_rfl
theorem c25_34_run (fr : List AV) (H : Heap) : arun (cxM call callY yl gc nL an25 k) c25_34 fr H = blockX 1 (arun (cxM call callY yl gc nL an25 k) c25_35) fr H := by kernel_rfl
theorem c25_33_run (fr : List AV) (H : Heap) : arun (cxM call callY yl gc nL an25 k) c25_33 fr H = loopU (arun (cxM call callY yl gc nL an25 k) c25_34) gc nL [false, true, false, false, false, false, true, false, true, true, true, true, false, false, false, false, false, false] k fr H := Eq.trans (by kernel_rfl) (loopU_eq _ _ _ _ _ _ _)
theorem c25_32_run (fr : List AV) (H : Heap) : arun (cxM call callY yl gc nL an25 k) c25_32 fr H = blockX 0 (arun (cxM call callY yl gc nL an25 k) c25_33) fr H := by kernel_rfl
noncomputable def c25_57 : Code := cR c25_31
noncomputable def c25_58 : Code := cL c25_57
theorem c25_58_run (fr : List AV) (H : Heap) : arun (cxM call callY yl gc nL an25 k) c25_58 fr H = aregion0U (cxM call callY yl gc nL an25 k) 16 (opsOf c25_58) false (frzSlots nL an25.pos [12] fr H).1 (frzSlots nL an25.pos [12] fr H).2 :=
  arun_region (by kernel_rfl) (by kernel_rfl)
theorem c25_58_chain (x0 x1 x2 x6 x7 x8 x9 x10 x11 x12 x13 x14 x15 x16 x31 x42 x49 x79 : AV) (H : Heap) : aregion0U (cxM call callY yl gc nL an25 k) 16 (opsOf c25_58) false [x0, x1, x2, x6, x7, x8, x9, x10, x11, x12, x13, x14, x15, x16, x31, x42, x49, x79] H = some (.normal, [x0, x1, x2, x12, (.int .i64 0), x8, x9, x10, x11, x12, x13, x14, x15, x16, x31, x42, x49, x79], H) := by kernel_rfl
noncomputable def c25_59 : Code := cR c25_57
theorem c25_59_run (fr : List AV) (H : Heap) : arun (cxM call callY yl gc nL an25 k) c25_59 fr H = some (.ret, fr, H) := by kernel_rfl
theorem c25_57_run (fr : List AV) (H : Heap) : arun (cxM call callY yl gc nL an25 k) c25_57 fr H = seqX (arun (cxM call callY yl gc nL an25 k) c25_58) (arun (cxM call callY yl gc nL an25 k) c25_59) fr H := by kernel_rfl
theorem c25_31_run (fr : List AV) (H : Heap) : arun (cxM call callY yl gc nL an25 k) c25_31 fr H = seqX (arun (cxM call callY yl gc nL an25 k) c25_32) (arun (cxM call callY yl gc nL an25 k) c25_57) fr H := by kernel_rfl
theorem c25_29_run (fr : List AV) (H : Heap) : arun (cxM call callY yl gc nL an25 k) c25_29 fr H = seqX (arun (cxM call callY yl gc nL an25 k) c25_30) (arun (cxM call callY yl gc nL an25 k) c25_31) fr H := by kernel_rfl
theorem c25_27_run (fr : List AV) (H : Heap) : arun (cxM call callY yl gc nL an25 k) c25_27 fr H = seqX (arun (cxM call callY yl gc nL an25 k) c25_28) (arun (cxM call callY yl gc nL an25 k) c25_29) fr H := by kernel_rfl
theorem c25_25_run (fr : List AV) (H : Heap) : arun (cxM call callY yl gc nL an25 k) c25_25 fr H = seqX (arun (cxM call callY yl gc nL an25 k) c25_26) (arun (cxM call callY yl gc nL an25 k) c25_27) fr H := by kernel_rfl
theorem c25_23_run (fr : List AV) (H : Heap) : arun (cxM call callY yl gc nL an25 k) c25_23 fr H = seqX (arun (cxM call callY yl gc nL an25 k) c25_24) (arun (cxM call callY yl gc nL an25 k) c25_25) fr H := by kernel_rfl
theorem c25_15_run (fr : List AV) (H : Heap) : arun (cxM call callY yl gc nL an25 k) c25_15 fr H = seqX (arun (cxM call callY yl gc nL an25 k) c25_16) (arun (cxM call callY yl gc nL an25 k) c25_23) fr H := by kernel_rfl
theorem c25_13_run (fr : List AV) (H : Heap) : arun (cxM call callY yl gc nL an25 k) c25_13 fr H = seqX (arun (cxM call callY yl gc nL an25 k) c25_14) (arun (cxM call callY yl gc nL an25 k) c25_15) fr H := by kernel_rfl
theorem c25_11_run (fr : List AV) (H : Heap) : arun (cxM call callY yl gc nL an25 k) c25_11 fr H = seqX (arun (cxM call callY yl gc nL an25 k) c25_12) (arun (cxM call callY yl gc nL an25 k) c25_13) fr H := by kernel_rfl
theorem c25_3_run (fr : List AV) (H : Heap) : arun (cxM call callY yl gc nL an25 k) c25_3 fr H = seqX (arun (cxM call callY yl gc nL an25 k) c25_4) (arun (cxM call callY yl gc nL an25 k) c25_11) fr H := by kernel_rfl
theorem c25_2_run (fr : List AV) (H : Heap) : arun (cxM call callY yl gc nL an25 k) c25_2 fr H = arun (cxM call callY yl gc nL an25 k) c25_3 fr H := by kernel_rfl
theorem c25_0_run (fr : List AV) (H : Heap) : arun (cxM call callY yl gc nL an25 k) c25_0 fr H = seqX (arun (cxM call callY yl gc nL an25 k) c25_1) (arun (cxM call callY yl gc nL an25 k) c25_2) fr H := by kernel_rfl
noncomputable def fin25 (nL : Nat) (r : ARes) : Option (AV × List ABlk) := finish Try.prog an25 Try.f25.results.toList nL r
theorem f25_eq {h : CallFn} {k : Nat} {x0 x1 x2 : AV} (hh : h 25 [x0, x1, x2] [] = none) : acall Try.prog annOf h (k + 1) 25 [x0, x1, x2] [] = fin25 0 (arun (cxM (acall Try.prog annOf h k) (callYM Try.prog annOf h k) none true 0 an25 k) c25_0 [x0, x1, x2, .undef, .undef, .undef, .undef, .undef, .undef, .undef, .undef, .undef, .undef, .undef, .undef, .undef, .undef, .undef] ⟨0, [], []⟩) :=
  acall_eq (fn := Try.f25) (c := c25_0) (by kernel_rfl) (by kernel_rfl) (Nat.le_of_ble_eq_true (by kernel_rfl)) hh
theorem f25_eqL {h : CallFn} {k : Nat} {x0 x1 x2 : AV} {L : List ABlk} (hh : h 25 [x0, x1, x2] L = none) : acall Try.prog annOf h (k + 1) 25 [x0, x1, x2] L = fin25 L.length (arun (cxM (acall Try.prog annOf h k) (callYM Try.prog annOf h k) none true L.length an25 k) c25_0 [x0, x1, x2, .undef, .undef, .undef, .undef, .undef, .undef, .undef, .undef, .undef, .undef, .undef, .undef, .undef, .undef, .undef] { heapOf L with outer := [] }) :=
  acall_eq (fn := Try.f25) (c := c25_0) (by kernel_rfl) (by kernel_rfl) (Nat.le_of_ble_eq_true (by kernel_rfl)) hh
theorem f25_fin_ret {y0 y1 y2 y6 y7 y8 y9 y10 y11 y12 y13 y14 y15 y16 y31 y42 y49 y79 : AV} {H : Heap} {nL : Nat} : fin25 nL (some (.ret, [y0, y1, y2, y6, y7, y8, y9, y10, y11, y12, y13, y14, y15, y16, y31, y42, y49, y79], H)) = (aret an25.frz nL (.tup [y6, y7]) H).bind fun r => if H.outer.isEmpty then some r else none := by kernel_rfl
theorem f25_fin_normal {y0 y1 y2 y6 y7 y8 y9 y10 y11 y12 y13 y14 y15 y16 y31 y42 y49 y79 : AV} {H : Heap} {nL : Nat} : fin25 nL (some (.normal, [y0, y1, y2, y6, y7, y8, y9, y10, y11, y12, y13, y14, y15, y16, y31, y42, y49, y79], H)) = (aret an25.frz nL (.tup [y6, y7]) H).bind fun r => if H.outer.isEmpty then some r else none := by kernel_rfl
noncomputable def c54_0 : Code := cBody Try.f54
noncomputable def c54_1 : Code := cL c54_0
theorem c54_1_run (x0 x1 x2 x6 : AV) (H : Heap) : arun (cxM call callY yl gc nL an54 k) c54_1 [x0, x1, x2, x6] H = some (.normal, [x0, x1, x2, (.bool false)], H) :=
  arun_region (by kernel_rfl) (by kernel_rfl)
noncomputable def c54_2 : Code := cR c54_0
noncomputable def c54_3 : Code := cL c54_2
noncomputable def c54_3_k1 (x0 : AV) (x1 : AV) (x2 : AV) (y2 : AV) (q4 : Q4) : ARes := (gd y2 true (some ((x2, q4.2.1, [], []) : Q4)) ((.tup [], q4.2.1, [], []) : Q4)).bind fun q5 => (gd y2 true ((pBin Try.prog .leq 3 q4.1 q5.1 q5.2.1).bind fun y3 => some ((y3, q5.2.1, (rdOf q4.1), []) : Q4)) ((.tup [], q5.2.1, [], []) : Q4)).bind fun q6 => (pPick y2 q6.1 (.bool false)).bind fun y7 => some (.normal, [x0, x1, x2, y7], q6.2.1)
theorem c54_3_run (x0 x1 x2 x6 : AV) (H : Heap) : arun (cxM call callY yl gc nL an54 k) c54_3 [x0, x1, x2, x6] H = (pBin Try.prog .geq 3 x0 x1 H).bind fun y2 => (gd y2 true (some ((x0, H, [], []) : Q4)) ((.tup [], H, [], []) : Q4)).bind fun q4 => (c54_3_k1 x0 x1 x2 y2 q4) :=
  arun_region (by kernel_rfl) (by kernel_rfl)
noncomputable def c54_4 : Code := cR c54_2
theorem c54_4_run (fr : List AV) (H : Heap) : arun (cxM call callY yl gc nL an54 k) c54_4 fr H = some (.ret, fr, H) := by kernel_rfl
theorem c54_2_run (fr : List AV) (H : Heap) : arun (cxM call callY yl gc nL an54 k) c54_2 fr H = seqX (arun (cxM call callY yl gc nL an54 k) c54_3) (arun (cxM call callY yl gc nL an54 k) c54_4) fr H := by kernel_rfl
theorem c54_0_run (fr : List AV) (H : Heap) : arun (cxM call callY yl gc nL an54 k) c54_0 fr H = seqX (arun (cxM call callY yl gc nL an54 k) c54_1) (arun (cxM call callY yl gc nL an54 k) c54_2) fr H := by kernel_rfl
noncomputable def fin54 (nL : Nat) (r : ARes) : Option (AV × List ABlk) := finish Try.prog an54 Try.f54.results.toList nL r
theorem f54_eq {h : CallFn} {k : Nat} {x0 x1 x2 : AV} (hh : h 54 [x0, x1, x2] [] = none) : acall Try.prog annOf h (k + 1) 54 [x0, x1, x2] [] = fin54 0 (arun (cxM (acall Try.prog annOf h k) (callYM Try.prog annOf h k) none true 0 an54 k) c54_0 [x0, x1, x2, .undef] ⟨0, [], []⟩) :=
  acall_eq (fn := Try.f54) (c := c54_0) (by kernel_rfl) (by kernel_rfl) (Nat.le_of_ble_eq_true (by kernel_rfl)) hh
theorem f54_eqL {h : CallFn} {k : Nat} {x0 x1 x2 : AV} {L : List ABlk} (hh : h 54 [x0, x1, x2] L = none) : acall Try.prog annOf h (k + 1) 54 [x0, x1, x2] L = fin54 L.length (arun (cxM (acall Try.prog annOf h k) (callYM Try.prog annOf h k) none true L.length an54 k) c54_0 [x0, x1, x2, .undef] { heapOf L with outer := [] }) :=
  acall_eq (fn := Try.f54) (c := c54_0) (by kernel_rfl) (by kernel_rfl) (Nat.le_of_ble_eq_true (by kernel_rfl)) hh
theorem f54_fin_ret {y0 y1 y2 y6 : AV} {H : Heap} {nL : Nat} : fin54 nL (some (.ret, [y0, y1, y2, y6], H)) = (aret an54.frz nL y6 H).bind fun r => if H.outer.isEmpty then some r else none := by kernel_rfl
theorem f54_fin_normal {y0 y1 y2 y6 : AV} {H : Heap} {nL : Nat} : fin54 nL (some (.normal, [y0, y1, y2, y6], H)) = (aret an54.frz nL y6 H).bind fun r => if H.outer.isEmpty then some r else none := by kernel_rfl
noncomputable def c56_0 : Code := cBody Try.f56
noncomputable def c56_1 : Code := cL c56_0
theorem c56_1_run (x0 x1 x4 x5 x7 x8 x9 x16 : AV) (H : Heap) : arun (cxM call callY yl gc nL an56 k) c56_1 [x0, x1, x4, x5, x7, x8, x9, x16] H = some (.normal, [x0, x1, (.int .i64 0), x5, x7, x8, x9, x16], H) :=
  arun_region (by kernel_rfl) (by kernel_rfl)
noncomputable def c56_2 : Code := cR c56_0
noncomputable def c56_3 : Code := cL c56_2
noncomputable def c56_4 : Code := cL c56_3
theorem c56_4_run (x0 x1 x4 x5 x7 x8 x9 x16 : AV) (H : Heap) : arun (cxM call callY yl gc nL an56 k) c56_4 [x0, x1, x4, x5, x7, x8, x9, x16] H = (pLen Try.prog 22 x0 H).bind fun y1 => some (.normal, [x0, x1, x4, x5, y1, (.int .i64 0), x9, x16], H) :=
  arun_region (by kernel_rfl) (by kernel_rfl)
noncomputable def c56_5 : Code := cR c56_3
noncomputable def c56_6 : Code := cL c56_5
noncomputable def c56_7 : Code := cL c56_6
noncomputable def c56_8 : Code := cL c56_7
theorem c56_8_run (x0 x1 x4 x5 x7 x8 x9 x16 : AV) (H : Heap) : arun (cxM call callY yl gc nL an56 k) c56_8 [x0, x1, x4, x5, x7, x8, x9, x16] H = (pBin Try.prog .lss 3 x8 x7 H).bind fun y0 => some (.normal, [x0, x1, x4, x5, x7, x8, y0, x16], H) :=
  arun_region (by kernel_rfl) (by kernel_rfl)
noncomputable def c56_9 : Code := cR c56_7
noncomputable def c56_10 : Code := cL c56_9
noncomputable def c56_11 : Code := cL c56_10
theorem c56_11_run (fr : List AV) (H : Heap) : arun (cxM call callY yl gc nL an56 k) c56_11 fr H = some (.normal, fr, H) := by kernel_rfl
noncomputable def c56_12 : Code := cR c56_10
theorem c56_12_run (fr : List AV) (H : Heap) : arun (cxM call callY yl gc nL an56 k) c56_12 fr H = some (.exit 0, fr, H) := by kernel_rfl
theorem c56_10_run (x0 x1 x4 x5 x7 x8 x9 x16 : AV) (H : Heap) : arun (cxM call callY yl gc nL an56 k) c56_10 [x0, x1, x4, x5, x7, x8, x9, x16] H = condX x9 (arun (cxM call callY yl gc nL an56 k) c56_11) (arun (cxM call callY yl gc nL an56 k) c56_12) [x0, x1, x4, x5, x7, x8, x9, x16] H := by kernel_rfl
noncomputable def c56_13 : Code := cR c56_9
noncomputable def c56_14 : Code := cL c56_13
noncomputable def c56_15 : Code := cL c56_14
noncomputable def c56_16 : Code := cL c56_15
theorem c56_16_run (x0 x1 x4 x5 x7 x8 x9 x16 : AV) (H : Heap) : arun (cxM call callY yl gc nL an56 k) c56_16 [x0, x1, x4, x5, x7, x8, x9, x16] H = some (.normal, [x0, x1, x4, x8, x7, x8, x9, x16], H) :=
  arun_region (by kernel_rfl) (by kernel_rfl)
noncomputable def c56_17 : Code := cR c56_15
noncomputable def c56_18 : Code := cL c56_17
theorem c56_18_run (x0 x1 x4 x5 x7 x8 x9 x16 : AV) (H : Heap) : arun (cxM call callY yl gc nL an56 k) c56_18 [x0, x1, x4, x5, x7, x8, x9, x16] H = (pIndexAddr Try.prog 22 x0 x5 H).bind fun y3 => (pLoad Try.prog 3 y3 H).bind fun y4 => (callVal (cxM call callY yl gc nL an56 k) 0 x1 [y4] H H.next fun y5 h5 a5 b5 => some (.normal, [x0, x1, x4, x5, x7, x8, x9, y5], h5)) :=
  arun_region (by kernel_rfl) (by kernel_rfl)
noncomputable def c56_19 : Code := cR c56_17
noncomputable def c56_20 : Code := cL c56_19
noncomputable def c56_21 : Code := cL c56_20
theorem c56_21_run (x0 x1 x4 x5 x7 x8 x9 x16 : AV) (H : Heap) : arun (cxM call callY yl gc nL an56 k) c56_21 [x0, x1, x4, x5, x7, x8, x9, x16] H = some (.normal, [x0, x1, x5, x5, x7, x8, x9, x16], H) :=
  arun_region (by kernel_rfl) (by kernel_rfl)
noncomputable def c56_22 : Code := cR c56_20
theorem c56_22_run (fr : List AV) (H : Heap) : arun (cxM call callY yl gc nL an56 k) c56_22 fr H = some (.ret, fr, H) := by kernel_rfl
theorem c56_20_run (fr : List AV) (H : Heap) : arun (cxM call callY yl gc nL an56 k) c56_20 fr H = seqX (arun (cxM call callY yl gc nL an56 k) c56_21) (arun (cxM call callY yl gc nL an56 k) c56_22) fr H := by kernel_rfl
noncomputable def c56_23 : Code := cR c56_19
theorem c56_23_run (fr : List AV) (H : Heap) : arun (cxM call callY yl gc nL an56 k) c56_23 fr H = some (.normal, fr, H) := by kernel_rfl
theorem c56_19_run (x0 x1 x4 x5 x7 x8 x9 x16 : AV) (H : Heap) : arun (cxM call callY yl gc nL an56 k) c56_19 [x0, x1, x4, x5, x7, x8, x9, x16] H = condX x16 (arun (cxM call callY yl gc nL an56 k) c56_20) (arun (cxM call callY yl gc nL an56 k) c56_23) [x0, x1, x4, x5, x7, x8, x9, x16] H := by kernel_rfl
theorem c56_17_run (fr : List AV) (H : Heap) : arun (cxM call callY yl gc nL an56 k) c56_17 fr H = seqX (arun (cxM call callY yl gc nL an56 k) c56_18) (arun (cxM call callY yl gc nL an56 k) c56_19) fr H := by kernel_rfl
theorem c56_15_run (fr : List AV) (H : Heap) : arun (cxM call callY yl gc nL an56 k) c56_15 fr H = seqX (arun (cxM call callY yl gc nL an56 k) c56_16) (arun (cxM call callY yl gc nL an56 k) c56_17) fr H := by kernel_rfl
theorem c56_14_run (fr : List AV) (H : Heap) : arun (cxM call callY yl gc nL an56 k) c56_14 fr H = blockX 1 (arun (cxM call callY yl gc nL an56 k) c56_15) fr H := by kernel_rfl
noncomputable def c56_24 : Code := cR c56_13
theorem c56_24_run (x0 x1 x4 x5 x7 x8 x9 x16 : AV) (H : Heap) : arun (cxM call callY yl gc nL an56 k) c56_24 [x0, x1, x4, x5, x7, x8, x9, x16] H = (pBin Try.prog .add 3 x8 (.int .i64 1) H).bind fun y0 => some (.normal, [x0, x1, x4, x5, x7, y0, x9, x16], H) :=
  arun_region (by kernel_rfl) (by kernel_rfl)
theorem c56_13_run (fr : List AV) (H : Heap) : arun (cxM call callY yl gc nL an56 k) c56_13 fr H = seqX (arun (cxM call callY yl gc nL an56 k) c56_14) (arun (cxM call callY yl gc nL an56 k) c56_24) fr H := by kernel_rfl
theorem c56_9_run (fr : List AV) (H : Heap) : arun (cxM call callY yl gc nL an56 k) c56_9 fr H = seqX (arun (cxM call callY yl gc nL an56 k) c56_10) (arun (cxM call callY yl gc nL an56 k) c56_13) fr H := by kernel_rfl
theorem c56_7_run (fr : List AV) (H : Heap) : arun (cxM call callY yl gc nL an56 k) c56_7 fr H = seqX (arun (cxM call callY yl gc nL an56 k) c56_8) (arun (cxM call callY yl gc nL an56 k) c56_9) fr H := by kernel_rfl
theorem c56_6_run (fr : List AV) (H : Heap) : arun (cxM call callY yl gc nL an56 k) c56_6 fr H = loopU (arun (cxM call callY yl gc nL an56 k) c56_7) gc nL [true, true, false, false, true, true, false, false] k fr H := Eq.trans (by kernel_rfl) (loopU_eq _ _ _ _ _ _ _)
theorem c56_5_run (fr : List AV) (H : Heap) : arun (cxM call callY yl gc nL an56 k) c56_5 fr H = blockX 0 (arun (cxM call callY yl gc nL an56 k) c56_6) fr H := by kernel_rfl
theorem c56_3_run (fr : List AV) (H : Heap) : arun (cxM call callY yl gc nL an56 k) c56_3 fr H = seqX (arun (cxM call callY yl gc nL an56 k) c56_4) (arun (cxM call callY yl gc nL an56 k) c56_5) fr H := by kernel_rfl
noncomputable def c56_25 : Code := cR c56_2
noncomputable def c56_26 : Code := cL c56_25
theorem c56_26_run (x0 x1 x4 x5 x7 x8 x9 x16 : AV) (H : Heap) : arun (cxM call callY yl gc nL an56 k) c56_26 [x0, x1, x4, x5, x7, x8, x9, x16] H = some (.normal, [x0, x1, (.int .i64 (-1)), x5, x7, x8, x9, x16], H) :=
  arun_region (by kernel_rfl) (by kernel_rfl)
noncomputable def c56_27 : Code := cR c56_25
theorem c56_27_run (fr : List AV) (H : Heap) : arun (cxM call callY yl gc nL an56 k) c56_27 fr H = some (.ret, fr, H) := by kernel_rfl
theorem c56_25_run (fr : List AV) (H : Heap) : arun (cxM call callY yl gc nL an56 k) c56_25 fr H = seqX (arun (cxM call callY yl gc nL an56 k) c56_26) (arun (cxM call callY yl gc nL an56 k) c56_27) fr H := by kernel_rfl
theorem c56_2_run (fr : List AV) (H : Heap) : arun (cxM call callY yl gc nL an56 k) c56_2 fr H = seqX (arun (cxM call callY yl gc nL an56 k) c56_3) (arun (cxM call callY yl gc nL an56 k) c56_25) fr H := by kernel_rfl
theorem c56_0_run (fr : List AV) (H : Heap) : arun (cxM call callY yl gc nL an56 k) c56_0 fr H = seqX (arun (cxM call callY yl gc nL an56 k) c56_1) (arun (cxM call callY yl gc nL an56 k) c56_2) fr H := by kernel_rfl
noncomputable def fin56 (nL : Nat) (r : ARes) : Option (AV × List ABlk) := finish Try.prog an56 Try.f56.results.toList nL r
theorem f56_eq {h : CallFn} {k : Nat} {x0 x1 : AV} (hh : h 56 [x0, x1] [] = none) : acall Try.prog annOf h (k + 1) 56 [x0, x1] [] = fin56 0 (arun (cxM (acall Try.prog annOf h k) (callYM Try.prog annOf h k) none true 0 an56 k) c56_0 [x0, x1, .undef, .undef, .undef, .undef, .undef, .undef] ⟨0, [], []⟩) :=
  acall_eq (fn := Try.f56) (c := c56_0) (by kernel_rfl) (by kernel_rfl) (Nat.le_of_ble_eq_true (by kernel_rfl)) hh
theorem f56_eqL {h : CallFn} {k : Nat} {x0 x1 : AV} {L : List ABlk} (hh : h 56 [x0, x1] L = none) : acall Try.prog annOf h (k + 1) 56 [x0, x1] L = fin56 L.length (arun (cxM (acall Try.prog annOf h k) (callYM Try.prog annOf h k) none true L.length an56 k) c56_0 [x0, x1, .undef, .undef, .undef, .undef, .undef, .undef] { heapOf L with outer := [] }) :=
  acall_eq (fn := Try.f56) (c := c56_0) (by kernel_rfl) (by kernel_rfl) (Nat.le_of_ble_eq_true (by kernel_rfl)) hh
theorem f56_fin_ret {y0 y1 y4 y5 y7 y8 y9 y16 : AV} {H : Heap} {nL : Nat} : fin56 nL (some (.ret, [y0, y1, y4, y5, y7, y8, y9, y16], H)) = (aret an56.frz nL y4 H).bind fun r => if H.outer.isEmpty then some r else none := by kernel_rfl
theorem f56_fin_normal {y0 y1 y4 y5 y7 y8 y9 y16 : AV} {H : Heap} {nL : Nat} : fin56 nL (some (.normal, [y0, y1, y4, y5, y7, y8, y9, y16], H)) = (aret an56.frz nL y4 H).bind fun r => if H.outer.isEmpty then some r else none := by kernel_rfl
noncomputable def c70_0 : Code := cBody Try.f70
noncomputable def c70_1 : Code := cL c70_0
theorem c70_1_run (x0 x2 : AV) (H : Heap) : arun (cxM call callY yl gc nL an70 k) c70_1 [x0, x2] H = some (.normal, [x0, (.bool false)], H) :=
  arun_region (by kernel_rfl) (by kernel_rfl)
noncomputable def c70_2 : Code := cR c70_0
noncomputable def c70_3 : Code := cL c70_2
theorem c70_3_run (x0 x2 : AV) (H : Heap) : arun (cxM call callY yl gc nL an70 k) c70_3 [x0, x2] H = (pCall call 0 54 ([] ++ [x0, (.int .i64 1), (.int .i64 200)] ++ []) H H.next).bind fun r1 => (pUn .not r1.1).bind fun y2 => some (.normal, [x0, y2], r1.2.1) :=
  arun_region (by kernel_rfl) (by kernel_rfl)
noncomputable def c70_4 : Code := cR c70_2
theorem c70_4_run (fr : List AV) (H : Heap) : arun (cxM call callY yl gc nL an70 k) c70_4 fr H = some (.ret, fr, H) := by kernel_rfl
theorem c70_2_run (fr : List AV) (H : Heap) : arun (cxM call callY yl gc nL an70 k) c70_2 fr H = seqX (arun (cxM call callY yl gc nL an70 k) c70_3) (arun (cxM call callY yl gc nL an70 k) c70_4) fr H := by kernel_rfl
theorem c70_0_run (fr : List AV) (H : Heap) : arun (cxM call callY yl gc nL an70 k) c70_0 fr H = seqX (arun (cxM call callY yl gc nL an70 k) c70_1) (arun (cxM call callY yl gc nL an70 k) c70_2) fr H := by kernel_rfl
noncomputable def fin70 (nL : Nat) (r : ARes) : Option (AV × List ABlk) := finish Try.prog an70 Try.f70.results.toList nL r
theorem f70_eq {h : CallFn} {k : Nat} {x0 : AV} (hh : h 70 [x0] [] = none) : acall Try.prog annOf h (k + 1) 70 [x0] [] = fin70 0 (arun (cxM (acall Try.prog annOf h k) (callYM Try.prog annOf h k) none true 0 an70 k) c70_0 [x0, .undef] ⟨0, [], []⟩) :=
  acall_eq (fn := Try.f70) (c := c70_0) (by kernel_rfl) (by kernel_rfl) (Nat.le_of_ble_eq_true (by kernel_rfl)) hh
theorem f70_eqL {h : CallFn} {k : Nat} {x0 : AV} {L : List ABlk} (hh : h 70 [x0] L = none) : acall Try.prog annOf h (k + 1) 70 [x0] L = fin70 L.length (arun (cxM (acall Try.prog annOf h k) (callYM Try.prog annOf h k) none true L.length an70 k) c70_0 [x0, .undef] { heapOf L with outer := [] }) :=
  acall_eq (fn := Try.f70) (c := c70_0) (by kernel_rfl) (by kernel_rfl) (Nat.le_of_ble_eq_true (by kernel_rfl)) hh
theorem f70_fin_ret {y0 y2 : AV} {H : Heap} {nL : Nat} : fin70 nL (some (.ret, [y0, y2], H)) = (aret an70.frz nL y2 H).bind fun r => if H.outer.isEmpty then some r else none := by kernel_rfl
theorem f70_fin_normal {y0 y2 : AV} {H : Heap} {nL : Nat} : fin70 nL (some (.normal, [y0, y2], H)) = (aret an70.frz nL y2 H).bind fun r => if H.outer.isEmpty then some r else none := by kernel_rfl
noncomputable def c71_0 : Code := cBody Try.f71
noncomputable def c71_1 : Code := cL c71_0
theorem c71_1_run (x0 x1 x2 x6 x9 : AV) (H : Heap) : arun (cxM call callY yl gc nL an71 k) c71_1 [x0, x1, x2, x6, x9] H = some (.normal, [x0, x1, x2, (.int .i64 0), x9], H) :=
  arun_region (by kernel_rfl) (by kernel_rfl)
noncomputable def c71_2 : Code := cR c71_0
noncomputable def c71_3 : Code := cL c71_2
noncomputable def c71_4 : Code := cL c71_3
theorem c71_4_run (x0 x1 x2 x6 x9 : AV) (H : Heap) : arun (cxM call callY yl gc nL an71 k) c71_4 [x0, x1, x2, x6, x9] H = (pBin Try.prog .rem 3 x2 (.int .i64 2) H).bind fun y1 => (pBin Try.prog .eql 3 y1 (.int .i64 1) H).bind fun y2 => some (.normal, [x0, x1, x2, x6, y2], H) :=
  arun_region (by kernel_rfl) (by kernel_rfl)
noncomputable def c71_5 : Code := cR c71_3
noncomputable def c71_6 : Code := cL c71_5
noncomputable def c71_7 : Code := cL c71_6
theorem c71_7_run (x0 x1 x2 x6 x9 : AV) (H : Heap) : arun (cxM call callY yl gc nL an71 k) c71_7 [x0, x1, x2, x6, x9] H = (pBin Try.prog .sub 3 x0 x1 H).bind fun y2 => some (.normal, [x0, x1, x2, y2, x9], H) :=
  arun_region (by kernel_rfl) (by kernel_rfl)
noncomputable def c71_8 : Code := cR c71_6
theorem c71_8_run (fr : List AV) (H : Heap) : arun (cxM call callY yl gc nL an71 k) c71_8 fr H = some (.ret, fr, H) := by kernel_rfl
theorem c71_6_run (fr : List AV) (H : Heap) : arun (cxM call callY yl gc nL an71 k) c71_6 fr H = seqX (arun (cxM call callY yl gc nL an71 k) c71_7) (arun (cxM call callY yl gc nL an71 k) c71_8) fr H := by kernel_rfl
noncomputable def c71_9 : Code := cR c71_5
theorem c71_9_run (fr : List AV) (H : Heap) : arun (cxM call callY yl gc nL an71 k) c71_9 fr H = some (.normal, fr, H) := by kernel_rfl
theorem c71_5_run (x0 x1 x2 x6 x9 : AV) (H : Heap) : arun (cxM call callY yl gc nL an71 k) c71_5 [x0, x1, x2, x6, x9] H = condX x9 (arun (cxM call callY yl gc nL an71 k) c71_6) (arun (cxM call callY yl gc nL an71 k) c71_9) [x0, x1, x2, x6, x9] H := by kernel_rfl
theorem c71_3_run (fr : List AV) (H : Heap) : arun (cxM call callY yl gc nL an71 k) c71_3 fr H = seqX (arun (cxM call callY yl gc nL an71 k) c71_4) (arun (cxM call callY yl gc nL an71 k) c71_5) fr H := by kernel_rfl
noncomputable def c71_10 : Code := cR c71_2
noncomputable def c71_11 : Code := cL c71_10
theorem c71_11_run (x0 x1 x2 x6 x9 : AV) (H : Heap) : arun (cxM call callY yl gc nL an71 k) c71_11 [x0, x1, x2, x6, x9] H = (pBin Try.prog .add 3 x0 x1 H).bind fun y2 => some (.normal, [x0, x1, x2, y2, x9], H) :=
  arun_region (by kernel_rfl) (by kernel_rfl)
noncomputable def c71_12 : Code := cR c71_10
theorem c71_12_run (fr : List AV) (H : Heap) : arun (cxM call callY yl gc nL an71 k) c71_12 fr H = some (.ret, fr, H) := by kernel_rfl
theorem c71_10_run (fr : List AV) (H : Heap) : arun (cxM call callY yl gc nL an71 k) c71_10 fr H = seqX (arun (cxM call callY yl gc nL an71 k) c71_11) (arun (cxM call callY yl gc nL an71 k) c71_12) fr H := by kernel_rfl
theorem c71_2_run (fr : List AV) (H : Heap) : arun (cxM call callY yl gc nL an71 k) c71_2 fr H = seqX (arun (cxM call callY yl gc nL an71 k) c71_3) (arun (cxM call callY yl gc nL an71 k) c71_10) fr H := by kernel_rfl
theorem c71_0_run (fr : List AV) (H : Heap) : arun (cxM call callY yl gc nL an71 k) c71_0 fr H = seqX (arun (cxM call callY yl gc nL an71 k) c71_1) (arun (cxM call callY yl gc nL an71 k) c71_2) fr H := by kernel_rfl
noncomputable def fin71 (nL : Nat) (r : ARes) : Option (AV × List ABlk) := finish Try.prog an71 Try.f71.results.toList nL r
theorem f71_eq {h : CallFn} {k : Nat} {x0 x1 x2 : AV} (hh : h 71 [x0, x1, x2] [] = none) : acall Try.prog annOf h (k + 1) 71 [x0, x1, x2] [] = fin71 0 (arun (cxM (acall Try.prog annOf h k) (callYM Try.prog annOf h k) none true 0 an71 k) c71_0 [x0, x1, x2, .undef, .undef] ⟨0, [], []⟩) :=
  acall_eq (fn := Try.f71) (c := c71_0) (by kernel_rfl) (by kernel_rfl) (Nat.le_of_ble_eq_true (by kernel_rfl)) hh
theorem f71_eqL {h : CallFn} {k : Nat} {x0 x1 x2 : AV} {L : List ABlk} (hh : h 71 [x0, x1, x2] L = none) : acall Try.prog annOf h (k + 1) 71 [x0, x1, x2] L = fin71 L.length (arun (cxM (acall Try.prog annOf h k) (callYM Try.prog annOf h k) none true L.length an71 k) c71_0 [x0, x1, x2, .undef, .undef] { heapOf L with outer := [] }) :=
  acall_eq (fn := Try.f71) (c := c71_0) (by kernel_rfl) (by kernel_rfl) (Nat.le_of_ble_eq_true (by kernel_rfl)) hh
theorem f71_fin_ret {y0 y1 y2 y6 y9 : AV} {H : Heap} {nL : Nat} : fin71 nL (some (.ret, [y0, y1, y2, y6, y9], H)) = (aret an71.frz nL y6 H).bind fun r => if H.outer.isEmpty then some r else none := by kernel_rfl
theorem f71_fin_normal {y0 y1 y2 y6 y9 : AV} {H : Heap} {nL : Nat} : fin71 nL (some (.normal, [y0, y1, y2, y6, y9], H)) = (aret an71.frz nL y6 H).bind fun r => if H.outer.isEmpty then some r else none := by kernel_rfl
noncomputable def c72_0 : Code := cBody Try.f72
noncomputable def c72_1 : Code := cL c72_0
theorem c72_1_run (x0 x1 x4 : AV) (H : Heap) : arun (cxM call callY yl gc nL an72 k) c72_1 [x0, x1, x4] H = some (.normal, [x0, x1, (.bool false)], H) :=
  arun_region (by kernel_rfl) (by kernel_rfl)
noncomputable def c72_2 : Code := cR c72_0
noncomputable def c72_3 : Code := cL c72_2
theorem c72_3_run (x0 x1 x4 : AV) (H : Heap) : arun (cxM call callY yl gc nL an72 k) c72_3 [x0, x1, x4] H = (pUn .neg x1).bind fun y2 => (pCall call 0 54 ([] ++ [x0, y2, x1] ++ []) H H.next).bind fun r4 => some (.normal, [x0, x1, r4.1], r4.2.1) :=
  arun_region (by kernel_rfl) (by kernel_rfl)
noncomputable def c72_4 : Code := cR c72_2
theorem c72_4_run (fr : List AV) (H : Heap) : arun (cxM call callY yl gc nL an72 k) c72_4 fr H = some (.ret, fr, H) := by kernel_rfl
theorem c72_2_run (fr : List AV) (H : Heap) : arun (cxM call callY yl gc nL an72 k) c72_2 fr H = seqX (arun (cxM call callY yl gc nL an72 k) c72_3) (arun (cxM call callY yl gc nL an72 k) c72_4) fr H := by kernel_rfl
theorem c72_0_run (fr : List AV) (H : Heap) : arun (cxM call callY yl gc nL an72 k) c72_0 fr H = seqX (arun (cxM call callY yl gc nL an72 k) c72_1) (arun (cxM call callY yl gc nL an72 k) c72_2) fr H := by kernel_rfl
noncomputable def fin72 (nL : Nat) (r : ARes) : Option (AV × List ABlk) := finish Try.prog an72 Try.f72.results.toList nL r
theorem f72_eq {h : CallFn} {k : Nat} {x0 x1 : AV} (hh : h 72 [x0, x1] [] = none) : acall Try.prog annOf h (k + 1) 72 [x0, x1] [] = fin72 0 (arun (cxM (acall Try.prog annOf h k) (callYM Try.prog annOf h k) none true 0 an72 k) c72_0 [x0, x1, .undef] ⟨0, [], []⟩) :=
  acall_eq (fn := Try.f72) (c := c72_0) (by kernel_rfl) (by kernel_rfl) (Nat.le_of_ble_eq_true (by kernel_rfl)) hh
theorem f72_eqL {h : CallFn} {k : Nat} {x0 x1 : AV} {L : List ABlk} (hh : h 72 [x0, x1] L = none) : acall Try.prog annOf h (k + 1) 72 [x0, x1] L = fin72 L.length (arun (cxM (acall Try.prog annOf h k) (callYM Try.prog annOf h k) none true L.length an72 k) c72_0 [x0, x1, .undef] { heapOf L with outer := [] }) :=
  acall_eq (fn := Try.f72) (c := c72_0) (by kernel_rfl) (by kernel_rfl) (Nat.le_of_ble_eq_true (by kernel_rfl)) hh
theorem f72_fin_ret {y0 y1 y4 : AV} {H : Heap} {nL : Nat} : fin72 nL (some (.ret, [y0, y1, y4], H)) = (aret an72.frz nL y4 H).bind fun r => if H.outer.isEmpty then some r else none := by kernel_rfl
theorem f72_fin_normal {y0 y1 y4 : AV} {H : Heap} {nL : Nat} : fin72 nL (some (.normal, [y0, y1, y4], H)) = (aret an72.frz nL y4 H).bind fun r => if H.outer.isEmpty then some r else none := by kernel_rfl
noncomputable def c73_0 : Code := cBody Try.f73
noncomputable def c73_1 : Code := cL c73_0
theorem c73_1_run (x0 x1 x2 x3 x4 x5 x13 x17 x28 : AV) (H : Heap) : arun (cxM call callY yl gc nL an73 k) c73_1 [x0, x1, x2, x3, x4, x5, x13, x17, x28] H = if x0.cells.all AV.one then some (.normal, [x0, (pBox 0 x0 H.next H).1, (.int .i64 0), (.bool false), x4, x5, x13, x17, x28], (pBox 0 x0 H.next H).2) else none :=
  arun_region (by kernel_rfl) (by kernel_rfl)
noncomputable def c73_2 : Code := cR c73_0
noncomputable def c73_3 : Code := cL c73_2
theorem c73_3_run (x0 x1 x2 x3 x4 x5 x13 x17 x28 : AV) (H : Heap) : arun (cxM call callY yl gc nL an73 k) c73_3 [x0, x1, x2, x3, x4, x5, x13, x17, x28] H = (pFieldAddr Try.prog 146 x1 2 H).bind fun y0 => (pLoad Try.prog 3 y0 H).bind fun y1 => some (.normal, [x0, x1, x2, x3, y1, x5, x13, x17, x28], H) :=
  arun_region (by kernel_rfl) (by kernel_rfl)
noncomputable def c73_4 : Code := cR c73_2
noncomputable def c73_5 : Code := cL c73_4
noncomputable def c73_6 : Code := cL c73_5
theorem c73_6_run (x0 x1 x2 x3 x4 x5 x13 x17 x28 : AV) (H : Heap) : arun (cxM call callY yl gc nL an73 k) c73_6 [x0, x1, x2, x3, x4, x5, x13, x17, x28] H = (pFieldAddr Try.prog 146 x1 0 H).bind fun y0 => (pLoad Try.prog 3 y0 H).bind fun y1 => (pBin Try.prog .sub 3 y1 x4 H).bind fun y3 => (pBin Try.prog .rem 3 y3 (.int .i64 2) H).bind fun y4 => (pBin Try.prog .neq 3 y4 (.int .i64 0) H).bind fun y5 => some (.normal, [x0, x1, x2, x3, x4, x5, y5, x17, x28], H) :=
  arun_region (by kernel_rfl) (by kernel_rfl)
noncomputable def c73_7 : Code := cR c73_5
noncomputable def c73_8 : Code := cL c73_7
theorem c73_8_run (x0 x1 x2 x3 x4 x5 x13 x17 x28 : AV) (H : Heap) : arun (cxM call callY yl gc nL an73 k) c73_8 [x0, x1, x2, x3, x4, x5, x13, x17, x28] H = (pBin Try.prog .sub 3 x4 (.int .i64 1) H).bind fun y1 => some (.normal, [x0, x1, x2, x3, y1, x5, x13, x17, x28], H) :=
  arun_region (by kernel_rfl) (by kernel_rfl)
noncomputable def c73_9 : Code := cR c73_7
theorem c73_9_run (fr : List AV) (H : Heap) : arun (cxM call callY yl gc nL an73 k) c73_9 fr H = some (.normal, fr, H) := by kernel_rfl
theorem c73_7_run (x0 x1 x2 x3 x4 x5 x13 x17 x28 : AV) (H : Heap) : arun (cxM call callY yl gc nL an73 k) c73_7 [x0, x1, x2, x3, x4, x5, x13, x17, x28] H = condX x13 (arun (cxM call callY yl gc nL an73 k) c73_8) (arun (cxM call callY yl gc nL an73 k) c73_9) [x0, x1, x2, x3, x4, x5, x13, x17, x28] H := by kernel_rfl
theorem c73_5_run (fr : List AV) (H : Heap) : arun (cxM call callY yl gc nL an73 k) c73_5 fr H = seqX (arun (cxM call callY yl gc nL an73 k) c73_6) (arun (cxM call callY yl gc nL an73 k) c73_7) fr H := by kernel_rfl
noncomputable def c73_10 : Code := cR c73_4
noncomputable def c73_11 : Code := cL c73_10
noncomputable def c73_12 : Code := cL c73_11
theorem c73_12_run (x0 x1 x2 x3 x4 x5 x13 x17 x28 : AV) (H : Heap) : arun (cxM call callY yl gc nL an73 k) c73_12 [x0, x1, x2, x3, x4, x5, x13, x17, x28] H = (pBin Try.prog .lss 3 x4 (.int .i64 0) H).bind fun y1 => some (.normal, [x0, x1, x2, x3, x4, x5, x13, y1, x28], H) :=
  arun_region (by kernel_rfl) (by kernel_rfl)
noncomputable def c73_13 : Code := cR c73_11
noncomputable def c73_14 : Code := cL c73_13
noncomputable def c73_15 : Code := cL c73_14
theorem c73_15_run (x0 x1 x2 x3 x4 x5 x13 x17 x28 : AV) (H : Heap) : arun (cxM call callY yl gc nL an73 k) c73_15 [x0, x1, x2, x3, x4, x5, x13, x17, x28] H = some (.normal, [x0, x1, (.int .i64 0), (.bool false), x4, x5, x13, x17, x28], H) :=
  arun_region (by kernel_rfl) (by kernel_rfl)
noncomputable def c73_16 : Code := cR c73_14
theorem c73_16_run (fr : List AV) (H : Heap) : arun (cxM call callY yl gc nL an73 k) c73_16 fr H = some (.ret, fr, H) := by kernel_rfl
theorem c73_14_run (fr : List AV) (H : Heap) : arun (cxM call callY yl gc nL an73 k) c73_14 fr H = seqX (arun (cxM call callY yl gc nL an73 k) c73_15) (arun (cxM call callY yl gc nL an73 k) c73_16) fr H := by kernel_rfl
noncomputable def c73_17 : Code := cR c73_13
theorem c73_17_run (fr : List AV) (H : Heap) : arun (cxM call callY yl gc nL an73 k) c73_17 fr H = some (.normal, fr, H) := by kernel_rfl
theorem c73_13_run (x0 x1 x2 x3 x4 x5 x13 x17 x28 : AV) (H : Heap) : arun (cxM call callY yl gc nL an73 k) c73_13 [x0, x1, x2, x3, x4, x5, x13, x17, x28] H = condX x17 (arun (cxM call callY yl gc nL an73 k) c73_14) (arun (cxM call callY yl gc nL an73 k) c73_17) [x0, x1, x2, x3, x4, x5, x13, x17, x28] H := by kernel_rfl
theorem c73_11_run (fr : List AV) (H : Heap) : arun (cxM call callY yl gc nL an73 k) c73_11 fr H = seqX (arun (cxM call callY yl gc nL an73 k) c73_12) (arun (cxM call callY yl gc nL an73 k) c73_13) fr H := by kernel_rfl
noncomputable def c73_18 : Code := cR c73_10
noncomputable def c73_19 : Code := cL c73_18
theorem c73_19_run (x0 x1 x2 x3 x4 x5 x13 x17 x28 : AV) (H : Heap) : arun (cxM call callY yl gc nL an73 k) c73_19 [x0, x1, x2, x3, x4, x5, x13, x17, x28] H = some (.normal, [x0, x1, x2, x3, x4, (.int .i64 1), x13, x17, x28], H) :=
  arun_region (by kernel_rfl) (by kernel_rfl)
noncomputable def c73_20 : Code := cR c73_18
noncomputable def c73_21 : Code := cL c73_20
noncomputable def c73_22 : Code := cL c73_21
noncomputable def c73_23 : Code := cL c73_22
noncomputable def c73_24 : Code := cL c73_23
noncomputable def c73_25 : Code := cL c73_24
noncomputable def c73_25_k1 (x0 : AV) (x1 : AV) (x2 : AV) (x3 : AV) (x4 : AV) (x5 : AV) (x13 : AV) (x17 : AV) (H : Heap) (y1 : AV) (y9 : AV) : ARes := (pBin Try.prog .gtr 3 y1 y9 H).bind fun y10 => some (.normal, [x0, x1, x2, x3, x4, x5, x13, x17, y10], H)
noncomputable def c73_25_k2 (x0 : AV) (x1 : AV) (x2 : AV) (x3 : AV) (x4 : AV) (x5 : AV) (x13 : AV) (x17 : AV) (H : Heap) (y1 : AV) (y4 : AV) : ARes := (pBin Try.prog .sub 3 x5 (.int .i64 1) H).bind fun y6 => (pBin Try.prog .mul 3 y4 y6 H).bind fun y7 => (pBin Try.prog .add 3 y7 x4 H).bind fun y9 => (c73_25_k1 x0 x1 x2 x3 x4 x5 x13 x17 H y1 y9)
theorem c73_25_run (x0 x1 x2 x3 x4 x5 x13 x17 x28 : AV) (H : Heap) : arun (cxM call callY yl gc nL an73 k) c73_25 [x0, x1, x2, x3, x4, x5, x13, x17, x28] H = (pFieldAddr Try.prog 146 x1 0 H).bind fun y0 => (pLoad Try.prog 3 y0 H).bind fun y1 => (pFieldAddr Try.prog 146 x1 1 H).bind fun y2 => (pLoad Try.prog 3 y2 H).bind fun y3 => (pBin Try.prog .mul 3 (.int .i64 2) y3 H).bind fun y4 => (c73_25_k2 x0 x1 x2 x3 x4 x5 x13 x17 H y1 y4) :=
  arun_region (by kernel_rfl) (by kernel_rfl)
noncomputable def c73_26 : Code := cR c73_24
noncomputable def c73_27 : Code := cL c73_26
theorem c73_27_run (fr : List AV) (H : Heap) : arun (cxM call callY yl gc nL an73 k) c73_27 fr H = some (.normal, fr, H) := by kernel_rfl
noncomputable def c73_28 : Code := cR c73_26
theorem c73_28_run (fr : List AV) (H : Heap) : arun (cxM call callY yl gc nL an73 k) c73_28 fr H = some (.exit 0, fr, H) := by kernel_rfl
theorem c73_26_run (x0 x1 x2 x3 x4 x5 x13 x17 x28 : AV) (H : Heap) : arun (cxM call callY yl gc nL an73 k) c73_26 [x0, x1, x2, x3, x4, x5, x13, x17, x28] H = condX x28 (arun (cxM call callY yl gc nL an73 k) c73_27) (arun (cxM call callY yl gc nL an73 k) c73_28) [x0, x1, x2, x3, x4, x5, x13, x17, x28] H := by kernel_rfl
theorem c73_24_run (fr : List AV) (H : Heap) : arun (cxM call callY yl gc nL an73 k) c73_24 fr H = seqX (arun (cxM call callY yl gc nL an73 k) c73_25) (arun (cxM call callY yl gc nL an73 k) c73_26) fr H := by kernel_rfl
noncomputable def c73_29 : Code := cR c73_23
noncomputable def c73_30 : Code := cL c73_29
theorem c73_30_run (x0 x1 x2 x3 x4 x5 x13 x17 x28 : AV) (H : Heap) : arun (cxM call callY yl gc nL an73 k) c73_30 [x0, x1, x2, x3, x4, x5, x13, x17, x28] H = (pBin Try.prog .add 3 x5 (.int .i64 1) H).bind fun y1 => some (.normal, [x0, x1, x2, x3, x4, y1, x13, x17, x28], H) :=
  arun_region (by kernel_rfl) (by kernel_rfl)
theorem c73_29_run (fr : List AV) (H : Heap) : arun (cxM call callY yl gc nL an73 k) c73_29 fr H = blockX 1 (arun (cxM call callY yl gc nL an73 k) c73_30) fr H := by kernel_rfl
theorem c73_23_run (fr : List AV) (H : Heap) : arun (cxM call callY yl gc nL an73 k) c73_23 fr H = seqX (arun (cxM call callY yl gc nL an73 k) c73_24) (arun (cxM call callY yl gc nL an73 k) c73_29) fr H := by kernel_rfl
theorem c73_22_run (fr : List AV) (H : Heap) : arun (cxM call callY yl gc nL an73 k) c73_22 fr H = loopU (arun (cxM call callY yl gc nL an73 k) c73_23) gc nL [false, true, false, false, true, true, false, false, false] k fr H := Eq.trans (by kernel_rfl) (loopU_eq _ _ _ _ _ _ _)
theorem c73_21_run (fr : List AV) (H : Heap) : arun (cxM call callY yl gc nL an73 k) c73_21 fr H = blockX 0 (arun (cxM call callY yl gc nL an73 k) c73_22) fr H := by kernel_rfl
noncomputable def c73_31 : Code := cR c73_20
noncomputable def c73_32 : Code := cL c73_31
theorem c73_32_run (x0 x1 x2 x3 x4 x5 x13 x17 x28 : AV) (H : Heap) : arun (cxM call callY yl gc nL an73 k) c73_32 [x0, x1, x2, x3, x4, x5, x13, x17, x28] H = some (.normal, [x0, x1, x5, (.bool true), x4, x5, x13, x17, x28], H) :=
  arun_region (by kernel_rfl) (by kernel_rfl)
noncomputable def c73_33 : Code := cR c73_31
theorem c73_33_run (fr : List AV) (H : Heap) : arun (cxM call callY yl gc nL an73 k) c73_33 fr H = some (.ret, fr, H) := by kernel_rfl
theorem c73_31_run (fr : List AV) (H : Heap) : arun (cxM call callY yl gc nL an73 k) c73_31 fr H = seqX (arun (cxM call callY yl gc nL an73 k) c73_32) (arun (cxM call callY yl gc nL an73 k) c73_33) fr H := by kernel_rfl
theorem c73_20_run (fr : List AV) (H : Heap) : arun (cxM call callY yl gc nL an73 k) c73_20 fr H = seqX (arun (cxM call callY yl gc nL an73 k) c73_21) (arun (cxM call callY yl gc nL an73 k) c73_31) fr H := by kernel_rfl
theorem c73_18_run (fr : List AV) (H : Heap) : arun (cxM call callY yl gc nL an73 k) c73_18 fr H = seqX (arun (cxM call callY yl gc nL an73 k) c73_19) (arun (cxM call callY yl gc nL an73 k) c73_20) fr H := by kernel_rfl
theorem c73_10_run (fr : List AV) (H : Heap) : arun (cxM call callY yl gc nL an73 k) c73_10 fr H = seqX (arun (cxM call callY yl gc nL an73 k) c73_11) (arun (cxM call callY yl gc nL an73 k) c73_18) fr H := by kernel_rfl
theorem c73_4_run (fr : List AV) (H : Heap) : arun (cxM call callY yl gc nL an73 k) c73_4 fr H = seqX (arun (cxM call callY yl gc nL an73 k) c73_5) (arun (cxM call callY yl gc nL an73 k) c73_10) fr H := by kernel_rfl
theorem c73_2_run (fr : List AV) (H : Heap) : arun (cxM call callY yl gc nL an73 k) c73_2 fr H = seqX (arun (cxM call callY yl gc nL an73 k) c73_3) (arun (cxM call callY yl gc nL an73 k) c73_4) fr H := by kernel_rfl
theorem c73_0_run (fr : List AV) (H : Heap) : arun (cxM call callY yl gc nL an73 k) c73_0 fr H = seqX (arun (cxM call callY yl gc nL an73 k) c73_1) (arun (cxM call callY yl gc nL an73 k) c73_2) fr H := by kernel_rfl
noncomputable def fin73 (nL : Nat) (r : ARes) : Option (AV × List ABlk) := finish Try.prog an73 Try.f73.results.toList nL r
theorem f73_eq {h : CallFn} {k : Nat} {x0 : AV} (hh : h 73 [x0] [] = none) : acall Try.prog annOf h (k + 1) 73 [x0] [] = fin73 0 (arun (cxM (acall Try.prog annOf h k) (callYM Try.prog annOf h k) none true 0 an73 k) c73_0 [x0, .undef, .undef, .undef, .undef, .undef, .undef, .undef, .undef] ⟨0, [], []⟩) :=
  acall_eq (fn := Try.f73) (c := c73_0) (by kernel_rfl) (by kernel_rfl) (Nat.le_of_ble_eq_true (by kernel_rfl)) hh
theorem f73_eqL {h : CallFn} {k : Nat} {x0 : AV} {L : List ABlk} (hh : h 73 [x0] L = none) : acall Try.prog annOf h (k + 1) 73 [x0] L = fin73 L.length (arun (cxM (acall Try.prog annOf h k) (callYM Try.prog annOf h k) none true L.length an73 k) c73_0 [x0, .undef, .undef, .undef, .undef, .undef, .undef, .undef, .undef] { heapOf L with outer := [] }) :=
  acall_eq (fn := Try.f73) (c := c73_0) (by kernel_rfl) (by kernel_rfl) (Nat.le_of_ble_eq_true (by kernel_rfl)) hh
theorem f73_fin_ret {y0 y1 y2 y3 y4 y5 y13 y17 y28 : AV} {H : Heap} {nL : Nat} : fin73 nL (some (.ret, [y0, y1, y2, y3, y4, y5, y13, y17, y28], H)) = (aret an73.frz nL (.tup [y2, y3]) H).bind fun r => if H.outer.isEmpty then some r else none := by kernel_rfl
theorem f73_fin_normal {y0 y1 y2 y3 y4 y5 y13 y17 y28 : AV} {H : Heap} {nL : Nat} : fin73 nL (some (.normal, [y0, y1, y2, y3, y4, y5, y13, y17, y28], H)) = (aret an73.frz nL (.tup [y2, y3]) H).bind fun r => if H.outer.isEmpty then some r else none := by kernel_rfl
noncomputable def c74_0 : Code := cBody Try.f74
noncomputable def c74_1 : Code := cL c74_0
theorem c74_1_run (x0 x1 x2 x4 x5 x6 x7 x8 x9 x10 x16 x21 x22 x23 x36 x41 x82 : AV) (H : Heap) : arun (cxM call callY yl gc nL an74 k) c74_1 [x0, x1, x2, x4, x5, x6, x7, x8, x9, x10, x16, x21, x22, x23, x36, x41, x82] H = if x0.cells.all AV.one then some (.normal, [x0, x1, (pBox 0 x0 H.next H).1, .nils, x5, x6, x7, x8, x9, x10, x16, x21, x22, x23, x36, x41, x82], (pBox 0 x0 H.next H).2) else none :=
  arun_region (by kernel_rfl) (by kernel_rfl)
noncomputable def c74_2 : Code := cR c74_0
noncomputable def c74_3 : Code := cL c74_2
theorem c74_3_run (x0 x1 x2 x4 x5 x6 x7 x8 x9 x10 x16 x21 x22 x23 x36 x41 x82 : AV) (H : Heap) : arun (cxM call callY yl gc nL an74 k) c74_3 [x0, x1, x2, x4, x5, x6, x7, x8, x9, x10, x16, x21, x22, x23, x36, x41, x82] H = (pBin Try.prog .add 3 x1 (.int .i64 1) H).bind fun y1 => (pMake Try.prog 149 y1 y1).bind fun m2 => some (.normal, [x0, x1, x2, x4, (.hs H.next 0), x6, x7, x8, x9, x10, x16, x21, x22, x23, x36, x41, x82], (H.put H.next (.sl 0 m2.1 true m2.2))) :=
  arun_region (by kernel_rfl) (by kernel_rfl)
noncomputable def c74_4 : Code := cR c74_2
noncomputable def c74_5 : Code := cL c74_4
noncomputable def c74_6 : Code := cL c74_5
theorem c74_6_run (x0 x1 x2 x4 x5 x6 x7 x8 x9 x10 x16 x21 x22 x23 x36 x41 x82 : AV) (H : Heap) : arun (cxM call callY yl gc nL an74 k) c74_6 [x0, x1, x2, x4, x5, x6, x7, x8, x9, x10, x16, x21, x22, x23, x36, x41, x82] H = some (.normal, [x0, x1, x2, x4, x5, x1, x7, x8, x9, x10, x16, x21, x22, x23, x36, x41, x82], H) :=
  arun_region (by kernel_rfl) (by kernel_rfl)
noncomputable def c74_7 : Code := cR c74_5
noncomputable def c74_8 : Code := cL c74_7
noncomputable def c74_9 : Code := cL c74_8
noncomputable def c74_10 : Code := cL c74_9
noncomputable def c74_11 : Code := cL c74_10
theorem c74_11_run (x0 x1 x2 x4 x5 x6 x7 x8 x9 x10 x16 x21 x22 x23 x36 x41 x82 : AV) (H : Heap) : arun (cxM call callY yl gc nL an74 k) c74_11 [x0, x1, x2, x4, x5, x6, x7, x8, x9, x10, x16, x21, x22, x23, x36, x41, x82] H = (pBin Try.prog .geq 3 x6 (.int .i64 0) H).bind fun y1 => some (.normal, [x0, x1, x2, x4, x5, x6, x7, x8, x9, x10, y1, x21, x22, x23, x36, x41, x82], H) :=
  arun_region (by kernel_rfl) (by kernel_rfl)
noncomputable def c74_12 : Code := cR c74_10
noncomputable def c74_13 : Code := cL c74_12
theorem c74_13_run (fr : List AV) (H : Heap) : arun (cxM call callY yl gc nL an74 k) c74_13 fr H = some (.normal, fr, H) := by kernel_rfl
noncomputable def c74_14 : Code := cR c74_12
theorem c74_14_run (fr : List AV) (H : Heap) : arun (cxM call callY yl gc nL an74 k) c74_14 fr H = some (.exit 0, fr, H) := by kernel_rfl
theorem c74_12_run (x0 x1 x2 x4 x5 x6 x7 x8 x9 x10 x16 x21 x22 x23 x36 x41 x82 : AV) (H : Heap) : arun (cxM call callY yl gc nL an74 k) c74_12 [x0, x1, x2, x4, x5, x6, x7, x8, x9, x10, x16, x21, x22, x23, x36, x41, x82] H = condX x16 (arun (cxM call callY yl gc nL an74 k) c74_13) (arun (cxM call callY yl gc nL an74 k) c74_14) [x0, x1, x2, x4, x5, x6, x7, x8, x9, x10, x16, x21, x22, x23, x36, x41, x82] H := by kernel_rfl
theorem c74_10_run (fr : List AV) (H : Heap) : arun (cxM call callY yl gc nL an74 k) c74_10 fr H = seqX (arun (cxM call callY yl gc nL an74 k) c74_11) (arun (cxM call callY yl gc nL an74 k) c74_12) fr H := by kernel_rfl
noncomputable def c74_15 : Code := cR c74_9
noncomputable def c74_16 : Code := cL c74_15
noncomputable def c74_17 : Code := cL c74_16
noncomputable def c74_18 : Code := cL c74_17
theorem c74_18_run (x0 x1 x2 x4 x5 x6 x7 x8 x9 x10 x16 x21 x22 x23 x36 x41 x82 : AV) (H : Heap) : arun (cxM call callY yl gc nL an74 k) c74_18 [x0, x1, x2, x4, x5, x6, x7, x8, x9, x10, x16, x21, x22, x23, x36, x41, x82] H = (pFieldAddr Try.prog 146 x2 0 H).bind fun y0 => (pLoad Try.prog 3 y0 H).bind fun y1 => (pBin Try.prog .add 3 y1 (.int .i64 1) H).bind fun y2 => some (.normal, [x0, x1, x2, x4, x5, x6, x7, x8, x9, x10, x16, y2, (.int .i64 0), x23, x36, x41, x82], H) :=
  arun_region (by kernel_rfl) (by kernel_rfl)
noncomputable def c74_19 : Code := cR c74_17
noncomputable def c74_20 : Code := cL c74_19
noncomputable def c74_21 : Code := cL c74_20
noncomputable def c74_22 : Code := cL c74_21
theorem c74_22_run (x0 x1 x2 x4 x5 x6 x7 x8 x9 x10 x16 x21 x22 x23 x36 x41 x82 : AV) (H : Heap) : arun (cxM call callY yl gc nL an74 k) c74_22 [x0, x1, x2, x4, x5, x6, x7, x8, x9, x10, x16, x21, x22, x23, x36, x41, x82] H = (pBin Try.prog .lss 3 x22 x21 H).bind fun y0 => some (.normal, [x0, x1, x2, x4, x5, x6, x7, x8, x9, x10, x16, x21, x22, y0, x36, x41, x82], H) :=
  arun_region (by kernel_rfl) (by kernel_rfl)
noncomputable def c74_23 : Code := cR c74_21
noncomputable def c74_24 : Code := cL c74_23
noncomputable def c74_25 : Code := cL c74_24
theorem c74_25_run (fr : List AV) (H : Heap) : arun (cxM call callY yl gc nL an74 k) c74_25 fr H = some (.normal, fr, H) := by kernel_rfl
noncomputable def c74_26 : Code := cR c74_24
theorem c74_26_run (fr : List AV) (H : Heap) : arun (cxM call callY yl gc nL an74 k) c74_26 fr H = some (.exit 2, fr, H) := by kernel_rfl
theorem c74_24_run (x0 x1 x2 x4 x5 x6 x7 x8 x9 x10 x16 x21 x22 x23 x36 x41 x82 : AV) (H : Heap) : arun (cxM call callY yl gc nL an74 k) c74_24 [x0, x1, x2, x4, x5, x6, x7, x8, x9, x10, x16, x21, x22, x23, x36, x41, x82] H = condX x23 (arun (cxM call callY yl gc nL an74 k) c74_25) (arun (cxM call callY yl gc nL an74 k) c74_26) [x0, x1, x2, x4, x5, x6, x7, x8, x9, x10, x16, x21, x22, x23, x36, x41, x82] H := by kernel_rfl
noncomputable def c74_27 : Code := cR c74_23
noncomputable def c74_28 : Code := cL c74_27
noncomputable def c74_29 : Code := cL c74_28
noncomputable def c74_30 : Code := cL c74_29
theorem c74_30_run (x0 x1 x2 x4 x5 x6 x7 x8 x9 x10 x16 x21 x22 x23 x36 x41 x82 : AV) (H : Heap) : arun (cxM call callY yl gc nL an74 k) c74_30 [x0, x1, x2, x4, x5, x6, x7, x8, x9, x10, x16, x21, x22, x23, x36, x41, x82] H = some (.normal, [x0, x1, x2, x4, x5, x6, x22, x8, x9, x10, x16, x21, x22, x23, x36, x41, x82], H) :=
  arun_region (by kernel_rfl) (by kernel_rfl)
noncomputable def c74_31 : Code := cR c74_29
noncomputable def c74_32 : Code := cL c74_31
theorem c74_32_run (x0 x1 x2 x4 x5 x6 x7 x8 x9 x10 x16 x21 x22 x23 x36 x41 x82 : AV) (H : Heap) : arun (cxM call callY yl gc nL an74 k) c74_32 [x0, x1, x2, x4, x5, x6, x7, x8, x9, x10, x16, x21, x22, x23, x36, x41, x82] H = (pFieldAddr Try.prog 146 x2 1 H).bind fun y0 => (pLoad Try.prog 3 y0 H).bind fun y1 => (pBin Try.prog .mul 3 (.int .i64 2) y1 H).bind fun y2 => (pBin Try.prog .add 3 y2 (.int .i64 1) H).bind fun y3 => (pMake Try.prog 42 y3 y3).bind fun m4 => some (.normal, [x0, x1, x2, x4, x5, x6, x7, (.hs H.next 0), x9, x10, x16, x21, x22, x23, x36, x41, x82], (H.put H.next (.sl 0 m4.1 true m4.2))) :=
  arun_region (by kernel_rfl) (by kernel_rfl)
noncomputable def c74_33 : Code := cR c74_31
noncomputable def c74_34 : Code := cL c74_33
noncomputable def c74_35 : Code := cL c74_34
theorem c74_35_run (x0 x1 x2 x4 x5 x6 x7 x8 x9 x10 x16 x21 x22 x23 x36 x41 x82 : AV) (H : Heap) : arun (cxM call callY yl gc nL an74 k) c74_35 [x0, x1, x2, x4, x5, x6, x7, x8, x9, x10, x16, x21, x22, x23, x36, x41, x82] H = (pFieldAddr Try.prog 146 x2 1 H).bind fun y0 => (pLoad Try.prog 3 y0 H).bind fun y1 => (pUn .neg y1).bind fun y2 => some (.normal, [x0, x1, x2, x4, x5, x6, x7, x8, y2, x10, x16, x21, x22, x23, x36, x41, x82], H) :=
  arun_region (by kernel_rfl) (by kernel_rfl)
noncomputable def c74_36 : Code := cR c74_34
noncomputable def c74_37 : Code := cL c74_36
noncomputable def c74_38 : Code := cL c74_37
noncomputable def c74_39 : Code := cL c74_38
noncomputable def c74_40 : Code := cL c74_39
theorem c74_40_run (x0 x1 x2 x4 x5 x6 x7 x8 x9 x10 x16 x21 x22 x23 x36 x41 x82 : AV) (H : Heap) : arun (cxM call callY yl gc nL an74 k) c74_40 [x0, x1, x2, x4, x5, x6, x7, x8, x9, x10, x16, x21, x22, x23, x36, x41, x82] H = (pFieldAddr Try.prog 146 x2 1 H).bind fun y1 => (pLoad Try.prog 3 y1 H).bind fun y2 => (pBin Try.prog .leq 3 x9 y2 H).bind fun y3 => some (.normal, [x0, x1, x2, x4, x5, x6, x7, x8, x9, x10, x16, x21, x22, x23, y3, x41, x82], H) :=
  arun_region (by kernel_rfl) (by kernel_rfl)
noncomputable def c74_41 : Code := cR c74_39
noncomputable def c74_42 : Code := cL c74_41
theorem c74_42_run (fr : List AV) (H : Heap) : arun (cxM call callY yl gc nL an74 k) c74_42 fr H = some (.normal, fr, H) := by kernel_rfl
noncomputable def c74_43 : Code := cR c74_41
theorem c74_43_run (fr : List AV) (H : Heap) : arun (cxM call callY yl gc nL an74 k) c74_43 fr H = some (.exit 4, fr, H) := by kernel_rfl
theorem c74_41_run (x0 x1 x2 x4 x5 x6 x7 x8 x9 x10 x16 x21 x22 x23 x36 x41 x82 : AV) (H : Heap) : arun (cxM call callY yl gc nL an74 k) c74_41 [x0, x1, x2, x4, x5, x6, x7, x8, x9, x10, x16, x21, x22, x23, x36, x41, x82] H = condX x36 (arun (cxM call callY yl gc nL an74 k) c74_42) (arun (cxM call callY yl gc nL an74 k) c74_43) [x0, x1, x2, x4, x5, x6, x7, x8, x9, x10, x16, x21, x22, x23, x36, x41, x82] H := by kernel_rfl
theorem c74_39_run (fr : List AV) (H : Heap) : arun (cxM call callY yl gc nL an74 k) c74_39 fr H = seqX (arun (cxM call callY yl gc nL an74 k) c74_40) (arun (cxM call callY yl gc nL an74 k) c74_41) fr H := by kernel_rfl
noncomputable def c74_44 : Code := cR c74_38
noncomputable def c74_45 : Code := cL c74_44
noncomputable def c74_46 : Code := cL c74_45
noncomputable def c74_47 : Code := cL c74_46
noncomputable def c74_48 : Code := cL c74_47
theorem c74_48_run (x0 x1 x2 x4 x5 x6 x7 x8 x9 x10 x16 x21 x22 x23 x36 x41 x82 : AV) (H : Heap) : arun (cxM call callY yl gc nL an74 k) c74_48 [x0, x1, x2, x4, x5, x6, x7, x8, x9, x10, x16, x21, x22, x23, x36, x41, x82] H = (pBin Try.prog .eql 3 x6 x1 H).bind fun y2 => some (.normal, [x0, x1, x2, x4, x5, x6, x7, x8, x9, x10, x16, x21, x22, x23, x36, y2, x82], H) :=
  arun_region (by kernel_rfl) (by kernel_rfl)
noncomputable def c74_49 : Code := cR c74_47
noncomputable def c74_50 : Code := cL c74_49
noncomputable def c74_51 : Code := cL c74_50
noncomputable def c74_51_k1 (x0 : AV) (x1 : AV) (x2 : AV) (x4 : AV) (x5 : AV) (x6 : AV) (x7 : AV) (x8 : AV) (x9 : AV) (x10 : AV) (x16 : AV) (x21 : AV) (x22 : AV) (x23 : AV) (x36 : AV) (x41 : AV) (x82 : AV) (H : Heap) (q0 : Q4) (q4 : Q4) (q14 : Q4) (d14 : List (Nat × List Nat × List Nat)) : ARes := ((pIndexAddr Try.prog 42 q0.1 q4.1 q14.2.1).bind fun v => some ((v, q14.2.1, (rdOf q0.1), []) : Q4)).bind fun q15 => okp 32767 15 q15 d14 fun d15 => ((pStore Try.prog 4 q15.1 q14.1 q15.2.1).bind fun h16 => some (((.tup []), h16, [], (rdOf q15.1)) : Q4)).bind fun q16 => okp 65535 16 q16 d15 fun d16 => some (.normal, [x0, x1, x2, x4, x5, x6, x7, x8, x9, x10, x16, x21, x22, x23, x36, x41, x82], (q16.2.1.atLeast (H.next + 8 * 17)))
noncomputable def c74_51_k2 (x0 : AV) (x1 : AV) (x2 : AV) (x4 : AV) (x5 : AV) (x6 : AV) (x7 : AV) (x8 : AV) (x9 : AV) (x10 : AV) (x16 : AV) (x21 : AV) (x22 : AV) (x23 : AV) (x36 : AV) (x41 : AV) (x82 : AV) (H : Heap) (q0 : Q4) (q4 : Q4) (q9 : Q4) (d9 : List (Nat × List Nat × List Nat)) : ARes := (gd q9.1 true (some ((x9, q9.2.1, [], []) : Q4)) ((.tup [], q9.2.1, [], []) : Q4)).bind fun q10 => okp 992 10 q10 d9 fun d10 => (gd q9.1 true ((pFieldAddr Try.prog 146 x2 2 q10.2.1).bind fun v => some ((v, q10.2.1, (rdOf x2), []) : Q4)) ((.tup [], q10.2.1, [], []) : Q4)).bind fun q11 => okp 992 11 q11 d10 fun d11 => (gd q9.1 true ((pLoad Try.prog 3 q11.1 q11.2.1).bind fun v => some ((v, q11.2.1, (rdOf q11.1), []) : Q4)) ((.tup [], q11.2.1, [], []) : Q4)).bind fun q12 => okp 3040 12 q12 d11 fun d12 => (gd q9.1 true ((pCall call 0 72 ([] ++ [q10.1, q12.1] ++ []) q12.2.1 (H.next + 8 * 13)).bind fun r13 => some ((r13.1, r13.2.1, r13.2.2.1, r13.2.2.2) : Q4)) ((.tup [], q12.2.1, [], []) : Q4)).bind fun q13 => okp 8160 13 q13 d12 fun d13 => ((pPick q9.1 q13.1 (.bool false)).bind fun v => some ((v, q13.2.1, [], []) : Q4)).bind fun q14 => okp 16352 14 q14 d13 fun d14 => (c74_51_k1 x0 x1 x2 x4 x5 x6 x7 x8 x9 x10 x16 x21 x22 x23 x36 x41 x82 H q0 q4 q14 d14)
noncomputable def c74_51_k3 (x0 : AV) (x1 : AV) (x2 : AV) (x4 : AV) (x5 : AV) (x6 : AV) (x7 : AV) (x8 : AV) (x9 : AV) (x10 : AV) (x16 : AV) (x21 : AV) (x22 : AV) (x23 : AV) (x36 : AV) (x41 : AV) (x82 : AV) (H : Heap) (q0 : Q4) (q4 : Q4) (d4 : List (Nat × List Nat × List Nat)) : ARes := (some ((x7, q4.2.1, [], []) : Q4)).bind fun q5 => okp 0 5 q5 d4 fun d5 => ((pFieldAddr Try.prog 146 x2 0 q5.2.1).bind fun v => some ((v, q5.2.1, (rdOf x2), []) : Q4)).bind fun q6 => okp 0 6 q6 d5 fun d6 => ((pLoad Try.prog 3 q6.1 q6.2.1).bind fun v => some ((v, q6.2.1, (rdOf q6.1), []) : Q4)).bind fun q7 => okp 64 7 q7 d6 fun d7 => ((pBin Try.prog .eql 3 q5.1 q7.1 q7.2.1).bind fun v => some ((v, q7.2.1, (rdOf q5.1), []) : Q4)).bind fun q8 => okp 224 8 q8 d7 fun d8 => (some ((q8.1, q8.2.1, [], []) : Q4)).bind fun q9 => okp 480 9 q9 d8 fun d9 => (c74_51_k2 (call := call) x0 x1 x2 x4 x5 x6 x7 x8 x9 x10 x16 x21 x22 x23 x36 x41 x82 H q0 q4 q9 d9)
theorem c74_51_run (x0 x1 x2 x4 x5 x6 x7 x8 x9 x10 x16 x21 x22 x23 x36 x41 x82 : AV) (H : Heap) : arun (cxM call callY yl gc nL an74 k) c74_51 [x0, x1, x2, x4, x5, x6, x7, x8, x9, x10, x16, x21, x22, x23, x36, x41, x82] H = (some ((x8, H, [], []) : Q4)).bind fun q0 => okp 0 0 q0 [] fun d0 => (some ((x9, q0.2.1, [], []) : Q4)).bind fun q1 => okp 0 1 q1 d0 fun d1 => ((pFieldAddr Try.prog 146 x2 1 q1.2.1).bind fun v => some ((v, q1.2.1, (rdOf x2), []) : Q4)).bind fun q2 => okp 0 2 q2 d1 fun d2 => ((pLoad Try.prog 3 q2.1 q2.2.1).bind fun v => some ((v, q2.2.1, (rdOf q2.1), []) : Q4)).bind fun q3 => okp 4 3 q3 d2 fun d3 => ((pBin Try.prog .add 3 q1.1 q3.1 q3.2.1).bind fun v => some ((v, q3.2.1, (rdOf q1.1), []) : Q4)).bind fun q4 => okp 14 4 q4 d3 fun d4 => (c74_51_k3 (call := call) x0 x1 x2 x4 x5 x6 x7 x8 x9 x10 x16 x21 x22 x23 x36 x41 x82 H q0 q4 d4) :=
  arun_region (by kernel_rfl) (by kernel_rfl)
noncomputable def c74_52 : Code := cR c74_50
theorem c74_52_run (fr : List AV) (H : Heap) : arun (cxM call callY yl gc nL an74 k) c74_52 fr H = some (.exit 5, fr, H) := by kernel_rfl
theorem c74_50_run (fr : List AV) (H : Heap) : arun (cxM call callY yl gc nL an74 k) c74_50 fr H = seqX (arun (cxM call callY yl gc nL an74 k) c74_51) (arun (cxM call callY yl gc nL an74 k) c74_52) fr H := by kernel_rfl
noncomputable def c74_53 : Code := cR c74_49
theorem c74_53_run (fr : List AV) (H : Heap) : arun (cxM call callY yl gc nL an74 k) c74_53 fr H = some (.normal, fr, H) := by kernel_rfl
theorem c74_49_run (x0 x1 x2 x4 x5 x6 x7 x8 x9 x10 x16 x21 x22 x23 x36 x41 x82 : AV) (H : Heap) : arun (cxM call callY yl gc nL an74 k) c74_49 [x0, x1, x2, x4, x5, x6, x7, x8, x9, x10, x16, x21, x22, x23, x36, x41, x82] H = condX x41 (arun (cxM call callY yl gc nL an74 k) c74_50) (arun (cxM call callY yl gc nL an74 k) c74_53) [x0, x1, x2, x4, x5, x6, x7, x8, x9, x10, x16, x21, x22, x23, x36, x41, x82] H := by kernel_rfl
theorem c74_47_run (fr : List AV) (H : Heap) : arun (cxM call callY yl gc nL an74 k) c74_47 fr H = seqX (arun (cxM call callY yl gc nL an74 k) c74_48) (arun (cxM call callY yl gc nL an74 k) c74_49) fr H := by kernel_rfl
noncomputable def c74_54 : Code := cR c74_46
noncomputable def c74_55 : Code := cL c74_54
theorem c74_55_run (x0 x1 x2 x4 x5 x6 x7 x8 x9 x10 x16 x21 x22 x23 x36 x41 x82 : AV) (H : Heap) : arun (cxM call callY yl gc nL an74 k) c74_55 [x0, x1, x2, x4, x5, x6, x7, x8, x9, x10, x16, x21, x22, x23, x36, x41, x82] H = some (.normal, [x0, x1, x2, x4, x5, x6, x7, x8, x9, (.int .i64 1), x16, x21, x22, x23, x36, x41, x82], H) :=
  arun_region (by kernel_rfl) (by kernel_rfl)
noncomputable def c74_56 : Code := cR c74_54
noncomputable def c74_57 : Code := cL c74_56
noncomputable def c74_58 : Code := cL c74_57
noncomputable def c74_59 : Code := cL c74_58
noncomputable def c74_60 : Code := cL c74_59
noncomputable def c74_60_k1 (x0 : AV) (x1 : AV) (x2 : AV) (x4 : AV) (x5 : AV) (x6 : AV) (x7 : AV) (x8 : AV) (x9 : AV) (x10 : AV) (x16 : AV) (x21 : AV) (x22 : AV) (x23 : AV) (x36 : AV) (x41 : AV) (H : Heap) (q15 : Q4) (q16 : Q4) (q17 : Q4) (q19 : Q4) (d19 : List (Nat × List Nat × List Nat)) : ARes := (gd q15.1 true ((pBin Try.prog .add 3 q17.1 q19.1 q19.2.1).bind fun v => some ((v, q19.2.1, (rdOf q17.1), []) : Q4)) ((.tup [], q19.2.1, [], []) : Q4)).bind fun q20 => okp 983039 20 q20 d19 fun d20 => (gd q15.1 true ((pIndexAddr Try.prog 42 q16.1 q20.1 q20.2.1).bind fun v => some ((v, q20.2.1, (rdOf q16.1), []) : Q4)) ((.tup [], q20.2.1, [], []) : Q4)).bind fun q21 => okp 2097151 21 q21 d20 fun d21 => (gd q15.1 true ((pLoad Try.prog 4 q21.1 q21.2.1).bind fun v => some ((v, q21.2.1, (rdOf q21.1), []) : Q4)) ((.tup [], q21.2.1, [], []) : Q4)).bind fun q22 => okp 4194303 22 q22 d21 fun d22 => (gd q15.1 true ((pUn .not q22.1).bind fun v => some ((v, q22.2.1, [], []) : Q4)) ((.tup [], q22.2.1, [], []) : Q4)).bind fun q23 => okp 8388607 23 q23 d22 fun d23 => ((pPick q15.1 q23.1 (.bool false)).bind fun v => some ((v, q23.2.1, [], []) : Q4)).bind fun q24 => okp 16777215 24 q24 d23 fun d24 => some (.normal, [x0, x1, x2, x4, x5, x6, x7, x8, x9, x10, x16, x21, x22, x23, x36, x41, q24.1], (q24.2.1.atLeast (H.next + 8 * 25)))
noncomputable def c74_60_k2 (x0 : AV) (x1 : AV) (x2 : AV) (x4 : AV) (x5 : AV) (x6 : AV) (x7 : AV) (x8 : AV) (x9 : AV) (x10 : AV) (x16 : AV) (x21 : AV) (x22 : AV) (x23 : AV) (x36 : AV) (x41 : AV) (H : Heap) (q14 : Q4) (d14 : List (Nat × List Nat × List Nat)) : ARes := (some ((q14.1, q14.2.1, [], []) : Q4)).bind fun q15 => okp 32767 15 q15 d14 fun d15 => (gd q15.1 true (some ((x8, q15.2.1, [], []) : Q4)) ((.tup [], q15.2.1, [], []) : Q4)).bind fun q16 => okp 65535 16 q16 d15 fun d16 => (gd q15.1 true (some ((x9, q16.2.1, [], []) : Q4)) ((.tup [], q16.2.1, [], []) : Q4)).bind fun q17 => okp 65535 17 q17 d16 fun d17 => (gd q15.1 true ((pFieldAddr Try.prog 146 x2 1 q17.2.1).bind fun v => some ((v, q17.2.1, (rdOf x2), []) : Q4)) ((.tup [], q17.2.1, [], []) : Q4)).bind fun q18 => okp 65535 18 q18 d17 fun d18 => (gd q15.1 true ((pLoad Try.prog 3 q18.1 q18.2.1).bind fun v => some ((v, q18.2.1, (rdOf q18.1), []) : Q4)) ((.tup [], q18.2.1, [], []) : Q4)).bind fun q19 => okp 327679 19 q19 d18 fun d19 => (c74_60_k1 x0 x1 x2 x4 x5 x6 x7 x8 x9 x10 x16 x21 x22 x23 x36 x41 H q15 q16 q17 q19 d19)
noncomputable def c74_60_k3 (x0 : AV) (x1 : AV) (x2 : AV) (x4 : AV) (x5 : AV) (x6 : AV) (x7 : AV) (x8 : AV) (x9 : AV) (x10 : AV) (x16 : AV) (x21 : AV) (x22 : AV) (x23 : AV) (x36 : AV) (x41 : AV) (H : Heap) (q6 : Q4) (q7 : Q4) (q8 : Q4) (q9 : Q4) (d9 : List (Nat × List Nat × List Nat)) : ARes := (gd q6.1 true ((pCall call 0 71 ([] ++ [q7.1, q8.1, q9.1] ++ []) q9.2.1 (H.next + 8 * 10)).bind fun r10 => some ((r10.1, r10.2.1, r10.2.2.1, r10.2.2.2) : Q4)) ((.tup [], q9.2.1, [], []) : Q4)).bind fun q10 => okp 1023 10 q10 d9 fun d10 => (gd q6.1 true ((pFieldAddr Try.prog 146 x2 1 q10.2.1).bind fun v => some ((v, q10.2.1, (rdOf x2), []) : Q4)) ((.tup [], q10.2.1, [], []) : Q4)).bind fun q11 => okp 127 11 q11 d10 fun d11 => (gd q6.1 true ((pLoad Try.prog 3 q11.1 q11.2.1).bind fun v => some ((v, q11.2.1, (rdOf q11.1), []) : Q4)) ((.tup [], q11.2.1, [], []) : Q4)).bind fun q12 => okp 2175 12 q12 d11 fun d12 => (gd q6.1 true ((pCall call 0 72 ([] ++ [q10.1, q12.1] ++ []) q12.2.1 (H.next + 8 * 13)).bind fun r13 => some ((r13.1, r13.2.1, r13.2.2.1, r13.2.2.2) : Q4)) ((.tup [], q12.2.1, [], []) : Q4)).bind fun q13 => okp 8191 13 q13 d12 fun d13 => ((pPick q6.1 q13.1 (.bool false)).bind fun v => some ((v, q13.2.1, [], []) : Q4)).bind fun q14 => okp 16383 14 q14 d13 fun d14 => (c74_60_k2 x0 x1 x2 x4 x5 x6 x7 x8 x9 x10 x16 x21 x22 x23 x36 x41 H q14 d14)
noncomputable def c74_60_k4 (x0 : AV) (x1 : AV) (x2 : AV) (x4 : AV) (x5 : AV) (x6 : AV) (x7 : AV) (x8 : AV) (x9 : AV) (x10 : AV) (x16 : AV) (x21 : AV) (x22 : AV) (x23 : AV) (x36 : AV) (x41 : AV) (H : Heap) (q2 : Q4) (q4 : Q4) (d4 : List (Nat × List Nat × List Nat)) : ARes := ((pBin Try.prog .leq 3 q2.1 q4.1 q4.2.1).bind fun v => some ((v, q4.2.1, (rdOf q2.1), []) : Q4)).bind fun q5 => okp 31 5 q5 d4 fun d5 => (some ((q5.1, q5.2.1, [], []) : Q4)).bind fun q6 => okp 63 6 q6 d5 fun d6 => (gd q6.1 true (some ((x9, q6.2.1, [], []) : Q4)) ((.tup [], q6.2.1, [], []) : Q4)).bind fun q7 => okp 127 7 q7 d6 fun d7 => (gd q6.1 true (some ((x10, q7.2.1, [], []) : Q4)) ((.tup [], q7.2.1, [], []) : Q4)).bind fun q8 => okp 127 8 q8 d7 fun d8 => (gd q6.1 true (some ((x6, q8.2.1, [], []) : Q4)) ((.tup [], q8.2.1, [], []) : Q4)).bind fun q9 => okp 127 9 q9 d8 fun d9 => (c74_60_k3 (call := call) x0 x1 x2 x4 x5 x6 x7 x8 x9 x10 x16 x21 x22 x23 x36 x41 H q6 q7 q8 q9 d9)
theorem c74_60_run (x0 x1 x2 x4 x5 x6 x7 x8 x9 x10 x16 x21 x22 x23 x36 x41 x82 : AV) (H : Heap) : arun (cxM call callY yl gc nL an74 k) c74_60 [x0, x1, x2, x4, x5, x6, x7, x8, x9, x10, x16, x21, x22, x23, x36, x41, x82] H = (some ((x7, H, [], []) : Q4)).bind fun q0 => okp 0 0 q0 [] fun d0 => (some ((x10, q0.2.1, [], []) : Q4)).bind fun q1 => okp 0 1 q1 d0 fun d1 => ((pBin Try.prog .add 3 q0.1 q1.1 q1.2.1).bind fun v => some ((v, q1.2.1, (rdOf q0.1), []) : Q4)).bind fun q2 => okp 3 2 q2 d1 fun d2 => ((pFieldAddr Try.prog 146 x2 0 q2.2.1).bind fun v => some ((v, q2.2.1, (rdOf x2), []) : Q4)).bind fun q3 => okp 0 3 q3 d2 fun d3 => ((pLoad Try.prog 3 q3.1 q3.2.1).bind fun v => some ((v, q3.2.1, (rdOf q3.1), []) : Q4)).bind fun q4 => okp 8 4 q4 d3 fun d4 => (c74_60_k4 (call := call) x0 x1 x2 x4 x5 x6 x7 x8 x9 x10 x16 x21 x22 x23 x36 x41 H q2 q4 d4) :=
  arun_region (by kernel_rfl) (by kernel_rfl)
noncomputable def c74_61 : Code := cR c74_59
noncomputable def c74_62 : Code := cL c74_61
theorem c74_62_run (fr : List AV) (H : Heap) : arun (cxM call callY yl gc nL an74 k) c74_62 fr H = some (.normal, fr, H) := by kernel_rfl
noncomputable def c74_63 : Code := cR c74_61
theorem c74_63_run (fr : List AV) (H : Heap) : arun (cxM call callY yl gc nL an74 k) c74_63 fr H = some (.exit 6, fr, H) := by kernel_rfl
theorem c74_61_run (x0 x1 x2 x4 x5 x6 x7 x8 x9 x10 x16 x21 x22 x23 x36 x41 x82 : AV) (H : Heap) : arun (cxM call callY yl gc nL an74 k) c74_61 [x0, x1, x2, x4, x5, x6, x7, x8, x9, x10, x16, x21, x22, x23, x36, x41, x82] H = condX x82 (arun (cxM call callY yl gc nL an74 k) c74_62) (arun (cxM call callY yl gc nL an74 k) c74_63) [x0, x1, x2, x4, x5, x6, x7, x8, x9, x10, x16, x21, x22, x23, x36, x41, x82] H := by kernel_rfl
theorem c74_59_run (fr : List AV) (H : Heap) : arun (cxM call callY yl gc nL an74 k) c74_59 fr H = seqX (arun (cxM call callY yl gc nL an74 k) c74_60) (arun (cxM call callY yl gc nL an74 k) c74_61) fr H := by kernel_rfl
noncomputable def c74_64 : Code := cR c74_58
noncomputable def c74_65 : Code := cL c74_64
noncomputable def c74_66 : Code := cL c74_65
noncomputable def c74_66_k1 (x0 : AV) (x1 : AV) (x2 : AV) (x4 : AV) (x5 : AV) (x6 : AV) (x7 : AV) (x8 : AV) (x9 : AV) (x10 : AV) (x16 : AV) (x21 : AV) (x22 : AV) (x23 : AV) (x36 : AV) (x41 : AV) (x82 : AV) (H : Heap) (q23 : Q4) (q24 : Q4) (d24 : List (Nat × List Nat × List Nat)) : ARes := ((pStore Try.prog 4 q24.1 q23.1 q24.2.1).bind fun h25 => some (((.tup []), h25, [], (rdOf q24.1)) : Q4)).bind fun q25 => okp 33554431 25 q25 d24 fun d25 => some (.normal, [x0, x1, x2, x4, x5, x6, x7, x8, x9, x10, x16, x21, x22, x23, x36, x41, x82], (q25.2.1.atLeast (H.next + 8 * 26)))
noncomputable def c74_66_k2 (x0 : AV) (x1 : AV) (x2 : AV) (x4 : AV) (x5 : AV) (x6 : AV) (x7 : AV) (x8 : AV) (x9 : AV) (x10 : AV) (x16 : AV) (x21 : AV) (x22 : AV) (x23 : AV) (x36 : AV) (x41 : AV) (x82 : AV) (H : Heap) (q0 : Q4) (q4 : Q4) (q14 : Q4) (q18 : Q4) (q19 : Q4) (d19 : List (Nat × List Nat × List Nat)) : ARes := ((pLoad Try.prog 3 q19.1 q19.2.1).bind fun v => some ((v, q19.2.1, (rdOf q19.1), []) : Q4)).bind fun q20 => okp 524288 20 q20 d19 fun d20 => ((pBin Try.prog .add 3 q18.1 q20.1 q20.2.1).bind fun v => some ((v, q20.2.1, (rdOf q18.1), []) : Q4)).bind fun q21 => okp 2064384 21 q21 d20 fun d21 => ((pIndexAddr Try.prog 42 q14.1 q21.1 q21.2.1).bind fun v => some ((v, q21.2.1, (rdOf q14.1), []) : Q4)).bind fun q22 => okp 4194272 22 q22 d21 fun d22 => ((pLoad Try.prog 4 q22.1 q22.2.1).bind fun v => some ((v, q22.2.1, (rdOf q22.1), []) : Q4)).bind fun q23 => okp 8388576 23 q23 d22 fun d23 => ((pIndexAddr Try.prog 42 q0.1 q4.1 q23.2.1).bind fun v => some ((v, q23.2.1, (rdOf q0.1), []) : Q4)).bind fun q24 => okp 16777215 24 q24 d23 fun d24 => (c74_66_k1 x0 x1 x2 x4 x5 x6 x7 x8 x9 x10 x16 x21 x22 x23 x36 x41 x82 H q23 q24 d24)
noncomputable def c74_66_k3 (x0 : AV) (x1 : AV) (x2 : AV) (x4 : AV) (x5 : AV) (x6 : AV) (x7 : AV) (x8 : AV) (x9 : AV) (x10 : AV) (x16 : AV) (x21 : AV) (x22 : AV) (x23 : AV) (x36 : AV) (x41 : AV) (x82 : AV) (H : Heap) (q0 : Q4) (q4 : Q4) (q14 : Q4) (d14 : List (Nat × List Nat × List Nat)) : ARes := (some ((x9, q14.2.1, [], []) : Q4)).bind fun q15 => okp 0 15 q15 d14 fun d15 => (some ((x10, q15.2.1, [], []) : Q4)).bind fun q16 => okp 0 16 q16 d15 fun d16 => (some ((x6, q16.2.1, [], []) : Q4)).bind fun q17 => okp 0 17 q17 d16 fun d17 => ((pCall call 0 71 ([] ++ [q15.1, q16.1, q17.1] ++ []) q17.2.1 (H.next + 8 * 18)).bind fun r18 => some ((r18.1, r18.2.1, r18.2.2.1, r18.2.2.2) : Q4)).bind fun q18 => okp 229376 18 q18 d17 fun d18 => ((pFieldAddr Try.prog 146 x2 1 q18.2.1).bind fun v => some ((v, q18.2.1, (rdOf x2), []) : Q4)).bind fun q19 => okp 0 19 q19 d18 fun d19 => (c74_66_k2 x0 x1 x2 x4 x5 x6 x7 x8 x9 x10 x16 x21 x22 x23 x36 x41 x82 H q0 q4 q14 q18 q19 d19)
noncomputable def c74_66_k4 (x0 : AV) (x1 : AV) (x2 : AV) (x4 : AV) (x5 : AV) (x6 : AV) (x7 : AV) (x8 : AV) (x9 : AV) (x10 : AV) (x16 : AV) (x21 : AV) (x22 : AV) (x23 : AV) (x36 : AV) (x41 : AV) (x82 : AV) (H : Heap) (q0 : Q4) (q4 : Q4) (q9 : Q4) (d9 : List (Nat × List Nat × List Nat)) : ARes := (some ((x7, q9.2.1, [], []) : Q4)).bind fun q10 => okp 0 10 q10 d9 fun d10 => (some ((x10, q10.2.1, [], []) : Q4)).bind fun q11 => okp 0 11 q11 d10 fun d11 => ((pBin Try.prog .add 3 q10.1 q11.1 q11.2.1).bind fun v => some ((v, q11.2.1, (rdOf q10.1), []) : Q4)).bind fun q12 => okp 3072 12 q12 d11 fun d12 => ((pIndexAddr Try.prog 151 q9.1 q12.1 q12.2.1).bind fun v => some ((v, q12.2.1, (rdOf q9.1), []) : Q4)).bind fun q13 => okp 8160 13 q13 d12 fun d13 => ((pLoad Try.prog 42 q13.1 q13.2.1).bind fun v => some ((v, q13.2.1, (rdOf q13.1), []) : Q4)).bind fun q14 => okp 16352 14 q14 d13 fun d14 => (c74_66_k3 (call := call) x0 x1 x2 x4 x5 x6 x7 x8 x9 x10 x16 x21 x22 x23 x36 x41 x82 H q0 q4 q14 d14)
noncomputable def c74_66_k5 (x0 : AV) (x1 : AV) (x2 : AV) (x4 : AV) (x5 : AV) (x6 : AV) (x7 : AV) (x8 : AV) (x9 : AV) (x10 : AV) (x16 : AV) (x21 : AV) (x22 : AV) (x23 : AV) (x36 : AV) (x41 : AV) (x82 : AV) (H : Heap) (q0 : Q4) (q4 : Q4) (d4 : List (Nat × List Nat × List Nat)) : ARes := (some ((x5, q4.2.1, [], []) : Q4)).bind fun q5 => okp 0 5 q5 d4 fun d5 => (some ((x6, q5.2.1, [], []) : Q4)).bind fun q6 => okp 0 6 q6 d5 fun d6 => ((pBin Try.prog .add 3 q6.1 (.int .i64 1) q6.2.1).bind fun v => some ((v, q6.2.1, (rdOf q6.1), []) : Q4)).bind fun q7 => okp 64 7 q7 d6 fun d7 => ((pIndexAddr Try.prog 149 q5.1 q7.1 q7.2.1).bind fun v => some ((v, q7.2.1, (rdOf q5.1), []) : Q4)).bind fun q8 => okp 224 8 q8 d7 fun d8 => ((pLoad Try.prog 151 q8.1 q8.2.1).bind fun v => some ((v, q8.2.1, (rdOf q8.1), []) : Q4)).bind fun q9 => okp 480 9 q9 d8 fun d9 => (c74_66_k4 (call := call) x0 x1 x2 x4 x5 x6 x7 x8 x9 x10 x16 x21 x22 x23 x36 x41 x82 H q0 q4 q9 d9)
theorem c74_66_run (x0 x1 x2 x4 x5 x6 x7 x8 x9 x10 x16 x21 x22 x23 x36 x41 x82 : AV) (H : Heap) : arun (cxM call callY yl gc nL an74 k) c74_66 [x0, x1, x2, x4, x5, x6, x7, x8, x9, x10, x16, x21, x22, x23, x36, x41, x82] H = (some ((x8, H, [], []) : Q4)).bind fun q0 => okp 0 0 q0 [] fun d0 => (some ((x9, q0.2.1, [], []) : Q4)).bind fun q1 => okp 0 1 q1 d0 fun d1 => ((pFieldAddr Try.prog 146 x2 1 q1.2.1).bind fun v => some ((v, q1.2.1, (rdOf x2), []) : Q4)).bind fun q2 => okp 0 2 q2 d1 fun d2 => ((pLoad Try.prog 3 q2.1 q2.2.1).bind fun v => some ((v, q2.2.1, (rdOf q2.1), []) : Q4)).bind fun q3 => okp 4 3 q3 d2 fun d3 => ((pBin Try.prog .add 3 q1.1 q3.1 q3.2.1).bind fun v => some ((v, q3.2.1, (rdOf q1.1), []) : Q4)).bind fun q4 => okp 14 4 q4 d3 fun d4 => (c74_66_k5 (call := call) x0 x1 x2 x4 x5 x6 x7 x8 x9 x10 x16 x21 x22 x23 x36 x41 x82 H q0 q4 d4) :=
  arun_region (by kernel_rfl) (by kernel_rfl)
theorem c74_65_run (fr : List AV) (H : Heap) : arun (cxM call callY yl gc nL an74 k) c74_65 fr H = blockX 7 (arun (cxM call callY yl gc nL an74 k) c74_66) fr H := by kernel_rfl
noncomputable def c74_67 : Code := cR c74_64
theorem c74_67_run (x0 x1 x2 x4 x5 x6 x7 x8 x9 x10 x16 x21 x22 x23 x36 x41 x82 : AV) (H : Heap) : arun (cxM call callY yl gc nL an74 k) c74_67 [x0, x1, x2, x4, x5, x6, x7, x8, x9, x10, x16, x21, x22, x23, x36, x41, x82] H = (pBin Try.prog .add 3 x10 (.int .i64 1) H).bind fun y1 => some (.normal, [x0, x1, x2, x4, x5, x6, x7, x8, x9, y1, x16, x21, x22, x23, x36, x41, x82], H) :=
  arun_region (by kernel_rfl) (by kernel_rfl)
theorem c74_64_run (fr : List AV) (H : Heap) : arun (cxM call callY yl gc nL an74 k) c74_64 fr H = seqX (arun (cxM call callY yl gc nL an74 k) c74_65) (arun (cxM call callY yl gc nL an74 k) c74_67) fr H := by kernel_rfl
theorem c74_58_run (fr : List AV) (H : Heap) : arun (cxM call callY yl gc nL an74 k) c74_58 fr H = seqX (arun (cxM call callY yl gc nL an74 k) c74_59) (arun (cxM call callY yl gc nL an74 k) c74_64) fr H := by kernel_rfl
theorem c74_57_run (fr : List AV) (H : Heap) : arun (cxM call callY yl gc nL an74 k) c74_57 fr H = loopU (arun (cxM call callY yl gc nL an74 k) c74_58) gc nL [false, true, true, false, true, true, true, true, true, true, false, true, true, false, false, false, false] k fr H := Eq.trans (by kernel_rfl) (loopU_eq _ _ _ _ _ _ _)
theorem c74_56_run (fr : List AV) (H : Heap) : arun (cxM call callY yl gc nL an74 k) c74_56 fr H = blockX 6 (arun (cxM call callY yl gc nL an74 k) c74_57) fr H := by kernel_rfl
theorem c74_54_run (fr : List AV) (H : Heap) : arun (cxM call callY yl gc nL an74 k) c74_54 fr H = seqX (arun (cxM call callY yl gc nL an74 k) c74_55) (arun (cxM call callY yl gc nL an74 k) c74_56) fr H := by kernel_rfl
theorem c74_46_run (fr : List AV) (H : Heap) : arun (cxM call callY yl gc nL an74 k) c74_46 fr H = seqX (arun (cxM call callY yl gc nL an74 k) c74_47) (arun (cxM call callY yl gc nL an74 k) c74_54) fr H := by kernel_rfl
theorem c74_45_run (fr : List AV) (H : Heap) : arun (cxM call callY yl gc nL an74 k) c74_45 fr H = blockX 5 (arun (cxM call callY yl gc nL an74 k) c74_46) fr H := by kernel_rfl
noncomputable def c74_68 : Code := cR c74_44
theorem c74_68_run (x0 x1 x2 x4 x5 x6 x7 x8 x9 x10 x16 x21 x22 x23 x36 x41 x82 : AV) (H : Heap) : arun (cxM call callY yl gc nL an74 k) c74_68 [x0, x1, x2, x4, x5, x6, x7, x8, x9, x10, x16, x21, x22, x23, x36, x41, x82] H = (pBin Try.prog .add 3 x9 (.int .i64 1) H).bind fun y1 => some (.normal, [x0, x1, x2, x4, x5, x6, x7, x8, y1, x10, x16, x21, x22, x23, x36, x41, x82], H) :=
  arun_region (by kernel_rfl) (by kernel_rfl)
theorem c74_44_run (fr : List AV) (H : Heap) : arun (cxM call callY yl gc nL an74 k) c74_44 fr H = seqX (arun (cxM call callY yl gc nL an74 k) c74_45) (arun (cxM call callY yl gc nL an74 k) c74_68) fr H := by kernel_rfl
theorem c74_38_run (fr : List AV) (H : Heap) : arun (cxM call callY yl gc nL an74 k) c74_38 fr H = seqX (arun (cxM call callY yl gc nL an74 k) c74_39) (arun (cxM call callY yl gc nL an74 k) c74_44) fr H := by kernel_rfl
theorem c74_37_run (fr : List AV) (H : Heap) : arun (cxM call callY yl gc nL an74 k) c74_37 fr H = loopU (arun (cxM call callY yl gc nL an74 k) c74_38) gc nL [false, true, true, false, true, true, true, true, true, false, false, true, true, false, false, false, false] k fr H := Eq.trans (by kernel_rfl) (loopU_eq _ _ _ _ _ _ _)
theorem c74_36_run (fr : List AV) (H : Heap) : arun (cxM call callY yl gc nL an74 k) c74_36 fr H = blockX 4 (arun (cxM call callY yl gc nL an74 k) c74_37) fr H := by kernel_rfl
theorem c74_34_run (fr : List AV) (H : Heap) : arun (cxM call callY yl gc nL an74 k) c74_34 fr H = seqX (arun (cxM call callY yl gc nL an74 k) c74_35) (arun (cxM call callY yl gc nL an74 k) c74_36) fr H := by kernel_rfl
noncomputable def c74_69 : Code := cR c74_33
noncomputable def c74_69_k1 (x0 : AV) (x1 : AV) (x2 : AV) (x4 : AV) (x5 : AV) (x6 : AV) (x7 : AV) (x8 : AV) (x9 : AV) (x10 : AV) (x16 : AV) (x21 : AV) (x22 : AV) (x23 : AV) (x36 : AV) (x41 : AV) (x82 : AV) (y9 : AV) (p8 : AV × Heap) : ARes := (pStore Try.prog 151 y9 p8.1 p8.2).bind fun h10 => some (.normal, [x0, x1, x2, x4, x5, x6, x7, x8, x9, x10, x16, x21, x22, x23, x36, x41, x82], h10)
noncomputable def c74_69_k2 (x0 : AV) (x1 : AV) (x2 : AV) (x4 : AV) (x5 : AV) (x6 : AV) (x7 : AV) (x8 : AV) (x9 : AV) (x10 : AV) (x16 : AV) (x21 : AV) (x22 : AV) (x23 : AV) (x36 : AV) (x41 : AV) (x82 : AV) (H : Heap) (y4 : AV) : ARes := (pLoad Try.prog 151 y4 H).bind fun y5 => (pLit Try.prog 151 1 [(0, (pFrz 0 x8 H).1)]).bind fun m7 => (pAppend Try.prog 151 151 y5 (pRow 0 m7.1 m7.2 (pFrz 0 x8 H).2.next (pFrz 0 x8 H).2).1 (pRow 0 m7.1 m7.2 (pFrz 0 x8 H).2.next (pFrz 0 x8 H).2).2.next (pRow 0 m7.1 m7.2 (pFrz 0 x8 H).2.next (pFrz 0 x8 H).2).2).bind fun p8 => (pIndexAddr Try.prog 149 x5 x6 p8.2).bind fun y9 => (c74_69_k1 x0 x1 x2 x4 x5 x6 x7 x8 x9 x10 x16 x21 x22 x23 x36 x41 x82 y9 p8)
theorem c74_69_run (x0 x1 x2 x4 x5 x6 x7 x8 x9 x10 x16 x21 x22 x23 x36 x41 x82 : AV) (H : Heap) : arun (cxM call callY yl gc nL an74 k) c74_69 [x0, x1, x2, x4, x5, x6, x7, x8, x9, x10, x16, x21, x22, x23, x36, x41, x82] H = (pIndexAddr Try.prog 149 x5 x6 H).bind fun y4 => (c74_69_k2 x0 x1 x2 x4 x5 x6 x7 x8 x9 x10 x16 x21 x22 x23 x36 x41 x82 H y4) :=
  arun_region (by kernel_rfl) (by kernel_rfl)
theorem c74_33_run (fr : List AV) (H : Heap) : arun (cxM call callY yl gc nL an74 k) c74_33 fr H = seqX (arun (cxM call callY yl gc nL an74 k) c74_34) (arun (cxM call callY yl gc nL an74 k) c74_69) fr H := by kernel_rfl
theorem c74_31_run (fr : List AV) (H : Heap) : arun (cxM call callY yl gc nL an74 k) c74_31 fr H = seqX (arun (cxM call callY yl gc nL an74 k) c74_32) (arun (cxM call callY yl gc nL an74 k) c74_33) fr H := by kernel_rfl
theorem c74_29_run (fr : List AV) (H : Heap) : arun (cxM call callY yl gc nL an74 k) c74_29 fr H = seqX (arun (cxM call callY yl gc nL an74 k) c74_30) (arun (cxM call callY yl gc nL an74 k) c74_31) fr H := by kernel_rfl
theorem c74_28_run (fr : List AV) (H : Heap) : arun (cxM call callY yl gc nL an74 k) c74_28 fr H = blockX 3 (arun (cxM call callY yl gc nL an74 k) c74_29) fr H := by kernel_rfl
noncomputable def c74_70 : Code := cR c74_27
theorem c74_70_run (x0 x1 x2 x4 x5 x6 x7 x8 x9 x10 x16 x21 x22 x23 x36 x41 x82 : AV) (H : Heap) : arun (cxM call callY yl gc nL an74 k) c74_70 [x0, x1, x2, x4, x5, x6, x7, x8, x9, x10, x16, x21, x22, x23, x36, x41, x82] H = (pBin Try.prog .add 3 x22 (.int .i64 1) H).bind fun y0 => some (.normal, [x0, x1, x2, x4, x5, x6, x7, x8, x9, x10, x16, x21, y0, x23, x36, x41, x82], H) :=
  arun_region (by kernel_rfl) (by kernel_rfl)
theorem c74_27_run (fr : List AV) (H : Heap) : arun (cxM call callY yl gc nL an74 k) c74_27 fr H = seqX (arun (cxM call callY yl gc nL an74 k) c74_28) (arun (cxM call callY yl gc nL an74 k) c74_70) fr H := by kernel_rfl
theorem c74_23_run (fr : List AV) (H : Heap) : arun (cxM call callY yl gc nL an74 k) c74_23 fr H = seqX (arun (cxM call callY yl gc nL an74 k) c74_24) (arun (cxM call callY yl gc nL an74 k) c74_27) fr H := by kernel_rfl
theorem c74_21_run (fr : List AV) (H : Heap) : arun (cxM call callY yl gc nL an74 k) c74_21 fr H = seqX (arun (cxM call callY yl gc nL an74 k) c74_22) (arun (cxM call callY yl gc nL an74 k) c74_23) fr H := by kernel_rfl
theorem c74_20_run (fr : List AV) (H : Heap) : arun (cxM call callY yl gc nL an74 k) c74_20 fr H = loopU (arun (cxM call callY yl gc nL an74 k) c74_21) gc nL [false, true, true, false, true, true, false, false, false, false, false, true, true, false, false, false, false] k fr H := Eq.trans (by kernel_rfl) (loopU_eq _ _ _ _ _ _ _)
theorem c74_19_run (fr : List AV) (H : Heap) : arun (cxM call callY yl gc nL an74 k) c74_19 fr H = blockX 2 (arun (cxM call callY yl gc nL an74 k) c74_20) fr H := by kernel_rfl
theorem c74_17_run (fr : List AV) (H : Heap) : arun (cxM call callY yl gc nL an74 k) c74_17 fr H = seqX (arun (cxM call callY yl gc nL an74 k) c74_18) (arun (cxM call callY yl gc nL an74 k) c74_19) fr H := by kernel_rfl
theorem c74_16_run (fr : List AV) (H : Heap) : arun (cxM call callY yl gc nL an74 k) c74_16 fr H = blockX 1 (arun (cxM call callY yl gc nL an74 k) c74_17) fr H := by kernel_rfl
noncomputable def c74_71 : Code := cR c74_15
theorem c74_71_run (fr : List AV) (H : Heap) : arun (cxM call callY yl gc nL an74 k) c74_71 fr H = aregion0U (cxM call callY yl gc nL an74 k) 4 (opsOf c74_71) false (frzSlots nL an74.pos [1000005] fr H).1 (frzSlots nL an74.pos [1000005] fr H).2 :=
  arun_region (by kernel_rfl) (by kernel_rfl)
theorem c74_71_chain (x0 x1 x2 x4 x5 x6 x7 x8 x9 x10 x16 x21 x22 x23 x36 x41 x82 : AV) (H : Heap) : aregion0U (cxM call callY yl gc nL an74 k) 4 (opsOf c74_71) false [x0, x1, x2, x4, x5, x6, x7, x8, x9, x10, x16, x21, x22, x23, x36, x41, x82] H = (pBin Try.prog .sub 3 x6 (.int .i64 1) H).bind fun y1 => some (.normal, [x0, x1, x2, x4, x5, y1, x7, x8, x9, x10, x16, x21, x22, x23, x36, x41, x82], H) := by kernel_rfl
theorem c74_15_run (fr : List AV) (H : Heap) : arun (cxM call callY yl gc nL an74 k) c74_15 fr H = seqX (arun (cxM call callY yl gc nL an74 k) c74_16) (arun (cxM call callY yl gc nL an74 k) c74_71) fr H := by kernel_rfl
theorem c74_9_run (fr : List AV) (H : Heap) : arun (cxM call callY yl gc nL an74 k) c74_9 fr H = seqX (arun (cxM call callY yl gc nL an74 k) c74_10) (arun (cxM call callY yl gc nL an74 k) c74_15) fr H := by kernel_rfl
theorem c74_8_run (fr : List AV) (H : Heap) : arun (cxM call callY yl gc nL an74 k) c74_8 fr H = loopU (arun (cxM call callY yl gc nL an74 k) c74_9) gc nL [false, true, true, false, true, true, false, false, false, false, false, false, false, false, false, false, false] k fr H := Eq.trans (by kernel_rfl) (loopU_eq _ _ _ _ _ _ _)
theorem c74_7_run (fr : List AV) (H : Heap) : arun (cxM call callY yl gc nL an74 k) c74_7 fr H = blockX 0 (arun (cxM call callY yl gc nL an74 k) c74_8) fr H := by kernel_rfl
theorem c74_5_run (fr : List AV) (H : Heap) : arun (cxM call callY yl gc nL an74 k) c74_5 fr H = seqX (arun (cxM call callY yl gc nL an74 k) c74_6) (arun (cxM call callY yl gc nL an74 k) c74_7) fr H := by kernel_rfl
noncomputable def c74_72 : Code := cR c74_4
noncomputable def c74_73 : Code := cL c74_72
theorem c74_73_run (fr : List AV) (H : Heap) : arun (cxM call callY yl gc nL an74 k) c74_73 fr H = aregion0U (cxM call callY yl gc nL an74 k) 20 (opsOf c74_73) false (frzSlots nL an74.pos [5] fr H).1 (frzSlots nL an74.pos [5] fr H).2 :=
  arun_region (by kernel_rfl) (by kernel_rfl)
theorem c74_73_chain (x0 x1 x2 x4 x5 x6 x7 x8 x9 x10 x16 x21 x22 x23 x36 x41 x82 : AV) (H : Heap) : aregion0U (cxM call callY yl gc nL an74 k) 20 (opsOf c74_73) false [x0, x1, x2, x4, x5, x6, x7, x8, x9, x10, x16, x21, x22, x23, x36, x41, x82] H = some (.normal, [x0, x1, x2, x5, x5, x6, x7, x8, x9, x10, x16, x21, x22, x23, x36, x41, x82], H) := by kernel_rfl
noncomputable def c74_74 : Code := cR c74_72
theorem c74_74_run (fr : List AV) (H : Heap) : arun (cxM call callY yl gc nL an74 k) c74_74 fr H = some (.ret, fr, H) := by kernel_rfl
theorem c74_72_run (fr : List AV) (H : Heap) : arun (cxM call callY yl gc nL an74 k) c74_72 fr H = seqX (arun (cxM call callY yl gc nL an74 k) c74_73) (arun (cxM call callY yl gc nL an74 k) c74_74) fr H := by kernel_rfl
theorem c74_4_run (fr : List AV) (H : Heap) : arun (cxM call callY yl gc nL an74 k) c74_4 fr H = seqX (arun (cxM call callY yl gc nL an74 k) c74_5) (arun (cxM call callY yl gc nL an74 k) c74_72) fr H := by kernel_rfl
theorem c74_2_run (fr : List AV) (H : Heap) : arun (cxM call callY yl gc nL an74 k) c74_2 fr H = seqX (arun (cxM call callY yl gc nL an74 k) c74_3) (arun (cxM call callY yl gc nL an74 k) c74_4) fr H := by kernel_rfl
theorem c74_0_run (fr : List AV) (H : Heap) : arun (cxM call callY yl gc nL an74 k) c74_0 fr H = seqX (arun (cxM call callY yl gc nL an74 k) c74_1) (arun (cxM call callY yl gc nL an74 k) c74_2) fr H := by kernel_rfl
noncomputable def fin74 (nL : Nat) (r : ARes) : Option (AV × List ABlk) := finish Try.prog an74 Try.f74.results.toList nL r
theorem f74_eq {h : CallFn} {k : Nat} {x0 x1 : AV} (hh : h 74 [x0, x1] [] = none) : acall Try.prog annOf h (k + 1) 74 [x0, x1] [] = fin74 0 (arun (cxM (acall Try.prog annOf h k) (callYM Try.prog annOf h k) none true 0 an74 k) c74_0 [x0, x1, .undef, .undef, .undef, .undef, .undef, .undef, .undef, .undef, .undef, .undef, .undef, .undef, .undef, .undef, .undef] ⟨0, [], []⟩) :=
  acall_eq (fn := Try.f74) (c := c74_0) (by kernel_rfl) (by kernel_rfl) (Nat.le_of_ble_eq_true (by kernel_rfl)) hh
theorem f74_eqL {h : CallFn} {k : Nat} {x0 x1 : AV} {L : List ABlk} (hh : h 74 [x0, x1] L = none) : acall Try.prog annOf h (k + 1) 74 [x0, x1] L = fin74 L.length (arun (cxM (acall Try.prog annOf h k) (callYM Try.prog annOf h k) none true L.length an74 k) c74_0 [x0, x1, .undef, .undef, .undef, .undef, .undef, .undef, .undef, .undef, .undef, .undef, .undef, .undef, .undef, .undef, .undef] { heapOf L with outer := [] }) :=
  acall_eq (fn := Try.f74) (c := c74_0) (by kernel_rfl) (by kernel_rfl) (Nat.le_of_ble_eq_true (by kernel_rfl)) hh
theorem f74_fin_ret {y0 y1 y2 y4 y5 y6 y7 y8 y9 y10 y16 y21 y22 y23 y36 y41 y82 : AV} {H : Heap} {nL : Nat} : fin74 nL (some (.ret, [y0, y1, y2, y4, y5, y6, y7, y8, y9, y10, y16, y21, y22, y23, y36, y41, y82], H)) = (aret an74.frz nL y4 H).bind fun r => if H.outer.isEmpty then some r else none := by kernel_rfl
theorem f74_fin_normal {y0 y1 y2 y4 y5 y6 y7 y8 y9 y10 y16 y21 y22 y23 y36 y41 y82 : AV} {H : Heap} {nL : Nat} : fin74 nL (some (.normal, [y0, y1, y2, y4, y5, y6, y7, y8, y9, y10, y16, y21, y22, y23, y36, y41, y82], H)) = (aret an74.frz nL y4 H).bind fun r => if H.outer.isEmpty then some r else none := by kernel_rfl
noncomputable def c94_0 : Code := cBody Try.f94
noncomputable def c94_1 : Code := cL c94_0
theorem c94_1_run (x0 x1 x2 x6 : AV) (H : Heap) : arun (cxM call callY yl gc nL an94 k) c94_1 [x0, x1, x2, x6] H = some (.normal, [x0, x1, x2, (.bool false)], H) :=
  arun_region (by kernel_rfl) (by kernel_rfl)
noncomputable def c94_2 : Code := cR c94_0
noncomputable def c94_3 : Code := cL c94_2
noncomputable def c94_3_k1 (x0 : AV) (x1 : AV) (x2 : AV) (y2 : AV) (q4 : Q4) : ARes := (gd y2 true (some ((x2, q4.2.1, [], []) : Q4)) ((.tup [], q4.2.1, [], []) : Q4)).bind fun q5 => (gd y2 true ((pBin Try.prog .leq 3 q4.1 q5.1 q5.2.1).bind fun y3 => some ((y3, q5.2.1, (rdOf q4.1), []) : Q4)) ((.tup [], q5.2.1, [], []) : Q4)).bind fun q6 => (pPick y2 q6.1 (.bool false)).bind fun y7 => some (.normal, [x0, x1, x2, y7], q6.2.1)
theorem c94_3_run (x0 x1 x2 x6 : AV) (H : Heap) : arun (cxM call callY yl gc nL an94 k) c94_3 [x0, x1, x2, x6] H = (pBin Try.prog .geq 3 x0 x1 H).bind fun y2 => (gd y2 true (some ((x0, H, [], []) : Q4)) ((.tup [], H, [], []) : Q4)).bind fun q4 => (c94_3_k1 x0 x1 x2 y2 q4) :=
  arun_region (by kernel_rfl) (by kernel_rfl)
noncomputable def c94_4 : Code := cR c94_2
theorem c94_4_run (fr : List AV) (H : Heap) : arun (cxM call callY yl gc nL an94 k) c94_4 fr H = some (.ret, fr, H) := by kernel_rfl
theorem c94_2_run (fr : List AV) (H : Heap) : arun (cxM call callY yl gc nL an94 k) c94_2 fr H = seqX (arun (cxM call callY yl gc nL an94 k) c94_3) (arun (cxM call callY yl gc nL an94 k) c94_4) fr H := by kernel_rfl
theorem c94_0_run (fr : List AV) (H : Heap) : arun (cxM call callY yl gc nL an94 k) c94_0 fr H = seqX (arun (cxM call callY yl gc nL an94 k) c94_1) (arun (cxM call callY yl gc nL an94 k) c94_2) fr H := by kernel_rfl
noncomputable def fin94 (nL : Nat) (r : ARes) : Option (AV × List ABlk) := finish Try.prog an94 Try.f94.results.toList nL r
theorem f94_eq {h : CallFn} {k : Nat} {x0 x1 x2 : AV} (hh : h 94 [x0, x1, x2] [] = none) : acall Try.prog annOf h (k + 1) 94 [x0, x1, x2] [] = fin94 0 (arun (cxM (acall Try.prog annOf h k) (callYM Try.prog annOf h k) none true 0 an94 k) c94_0 [x0, x1, x2, .undef] ⟨0, [], []⟩) :=
  acall_eq (fn := Try.f94) (c := c94_0) (by kernel_rfl) (by kernel_rfl) (Nat.le_of_ble_eq_true (by kernel_rfl)) hh
theorem f94_eqL {h : CallFn} {k : Nat} {x0 x1 x2 : AV} {L : List ABlk} (hh : h 94 [x0, x1, x2] L = none) : acall Try.prog annOf h (k + 1) 94 [x0, x1, x2] L = fin94 L.length (arun (cxM (acall Try.prog annOf h k) (callYM Try.prog annOf h k) none true L.length an94 k) c94_0 [x0, x1, x2, .undef] { heapOf L with outer := [] }) :=
  acall_eq (fn := Try.f94) (c := c94_0) (by kernel_rfl) (by kernel_rfl) (Nat.le_of_ble_eq_true (by kernel_rfl)) hh
theorem f94_fin_ret {y0 y1 y2 y6 : AV} {H : Heap} {nL : Nat} : fin94 nL (some (.ret, [y0, y1, y2, y6], H)) = (aret an94.frz nL y6 H).bind fun r => if H.outer.isEmpty then some r else none := by kernel_rfl
theorem f94_fin_normal {y0 y1 y2 y6 : AV} {H : Heap} {nL : Nat} : fin94 nL (some (.normal, [y0, y1, y2, y6], H)) = (aret an94.frz nL y6 H).bind fun r => if H.outer.isEmpty then some r else none := by kernel_rfl
end Go.Proofs.Ytbkifahfbcalaaa
