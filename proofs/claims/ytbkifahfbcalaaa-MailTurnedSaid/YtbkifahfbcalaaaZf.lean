/-
  THE CODE of functions 6 26 75 117 in pieces, and what each piece does: equations written by a program of our own (gen_fn.py), each checked by the kernel.
-/
import Derived.Test.YtbkifahfbcalaaaZd
set_option linter.unusedSimpArgs false
set_option linter.unusedVariables false
namespace Go.Proofs.Ytbkifahfbcalaaa
open Go.Am
variable {call : CallFn} {callY : YFn → FuncId → List AV → List OSt → Option (AV × List OSt)} {yl : Option YFn} {gc : Bool} {nL k : Nat}
noncomputable def c6_0 : Code := cBody Try.f6
noncomputable def c6_1 : Code := cL c6_0
theorem c6_1_run (x0 x1 x2 x6 x7 x8 x10 x11 x12 x13 x14 x15 x16 x17 x18 x20 x21 x22 x23 x24 x25 x26 x36 x46 x73 x75 x94 x95 x96 x97 x121 : AV) (H : Heap) : arun (cxM call callY yl gc nL an6 k) c6_1 [x0, x1, x2, x6, x7, x8, x10, x11, x12, x13, x14, x15, x16, x17, x18, x20, x21, x22, x23, x24, x25, x26, x36, x46, x73, x75, x94, x95, x96, x97, x121] H = some (.normal, [x0, x1, x2, (.bool false), x7, x8, x10, x11, x12, x13, x14, x15, x16, x17, x18, x20, x21, x22, x23, x24, x25, x26, x36, x46, x73, x75, x94, x95, x96, x97, x121], H) :=
  arun_region (by kernel_rfl) (by kernel_rfl)
noncomputable def c6_2 : Code := cR c6_0
noncomputable def c6_3 : Code := cL c6_2
theorem c6_3_run (x0 x1 x2 x6 x7 x8 x10 x11 x12 x13 x14 x15 x16 x17 x18 x20 x21 x22 x23 x24 x25 x26 x36 x46 x73 x75 x94 x95 x96 x97 x121 : AV) (H : Heap) : arun (cxM call callY yl gc nL an6 k) c6_3 [x0, x1, x2, x6, x7, x8, x10, x11, x12, x13, x14, x15, x16, x17, x18, x20, x21, x22, x23, x24, x25, x26, x36, x46, x73, x75, x94, x95, x96, x97, x121] H = (accOf Try.prog 22 .nils H.next H).bind fun p0 => some (.normal, [x0, x1, x2, x6, p0.1, x8, x10, x11, x12, x13, x14, x15, x16, x17, x18, x20, x21, x22, x23, x24, x25, x26, x36, x46, x73, x75, x94, x95, x96, x97, x121], p0.2) :=
  arun_region (by kernel_rfl) (by kernel_rfl)
noncomputable def c6_4 : Code := cR c6_2
noncomputable def c6_5 : Code := cL c6_4
theorem c6_5_run (x0 x1 x2 x6 x7 x8 x10 x11 x12 x13 x14 x15 x16 x17 x18 x20 x21 x22 x23 x24 x25 x26 x36 x46 x73 x75 x94 x95 x96 x97 x121 : AV) (H : Heap) : arun (cxM call callY yl gc nL an6 k) c6_5 [x0, x1, x2, x6, x7, x8, x10, x11, x12, x13, x14, x15, x16, x17, x18, x20, x21, x22, x23, x24, x25, x26, x36, x46, x73, x75, x94, x95, x96, x97, x121] H = some (.normal, [x0, x1, x2, x6, x7, (.int .i64 0), x10, x11, x12, x13, x14, x15, x16, x17, x18, x20, x21, x22, x23, x24, x25, x26, x36, x46, x73, x75, x94, x95, x96, x97, x121], H) :=
  arun_region (by kernel_rfl) (by kernel_rfl)
noncomputable def c6_6 : Code := cR c6_4
noncomputable def c6_7 : Code := cL c6_6
noncomputable def c6_8 : Code := cL c6_7
theorem c6_8_run (x0 x1 x2 x6 x7 x8 x10 x11 x12 x13 x14 x15 x16 x17 x18 x20 x21 x22 x23 x24 x25 x26 x36 x46 x73 x75 x94 x95 x96 x97 x121 : AV) (H : Heap) : arun (cxM call callY yl gc nL an6 k) c6_8 [x0, x1, x2, x6, x7, x8, x10, x11, x12, x13, x14, x15, x16, x17, x18, x20, x21, x22, x23, x24, x25, x26, x36, x46, x73, x75, x94, x95, x96, x97, x121] H = (pLen Try.prog 25 x0 H).bind fun y1 => some (.normal, [x0, x1, x2, x6, x7, x8, x10, x11, x12, x13, x14, x15, x16, x17, x18, x20, x21, x22, x0, y1, (.int .i64 0), x26, x36, x46, x73, x75, x94, x95, x96, x97, x121], H) :=
  arun_region (by kernel_rfl) (by kernel_rfl)
noncomputable def c6_9 : Code := cR c6_7
noncomputable def c6_10 : Code := cL c6_9
noncomputable def c6_11 : Code := cL c6_10
noncomputable def c6_12 : Code := cL c6_11
theorem c6_12_run (x0 x1 x2 x6 x7 x8 x10 x11 x12 x13 x14 x15 x16 x17 x18 x20 x21 x22 x23 x24 x25 x26 x36 x46 x73 x75 x94 x95 x96 x97 x121 : AV) (H : Heap) : arun (cxM call callY yl gc nL an6 k) c6_12 [x0, x1, x2, x6, x7, x8, x10, x11, x12, x13, x14, x15, x16, x17, x18, x20, x21, x22, x23, x24, x25, x26, x36, x46, x73, x75, x94, x95, x96, x97, x121] H = (pBin Try.prog .lss 3 x25 x24 H).bind fun y0 => some (.normal, [x0, x1, x2, x6, x7, x8, x10, x11, x12, x13, x14, x15, x16, x17, x18, x20, x21, x22, x23, x24, x25, y0, x36, x46, x73, x75, x94, x95, x96, x97, x121], H) :=
  arun_region (by kernel_rfl) (by kernel_rfl)
noncomputable def c6_13 : Code := cR c6_11
noncomputable def c6_14 : Code := cL c6_13
noncomputable def c6_15 : Code := cL c6_14
theorem c6_15_run (fr : List AV) (H : Heap) : arun (cxM call callY yl gc nL an6 k) c6_15 fr H = some (.normal, fr, H) := by kernel_rfl
noncomputable def c6_16 : Code := cR c6_14
theorem c6_16_run (fr : List AV) (H : Heap) : arun (cxM call callY yl gc nL an6 k) c6_16 fr H = some (.exit 0, fr, H) := by kernel_rfl
theorem c6_14_run (x0 x1 x2 x6 x7 x8 x10 x11 x12 x13 x14 x15 x16 x17 x18 x20 x21 x22 x23 x24 x25 x26 x36 x46 x73 x75 x94 x95 x96 x97 x121 : AV) (H : Heap) : arun (cxM call callY yl gc nL an6 k) c6_14 [x0, x1, x2, x6, x7, x8, x10, x11, x12, x13, x14, x15, x16, x17, x18, x20, x21, x22, x23, x24, x25, x26, x36, x46, x73, x75, x94, x95, x96, x97, x121] H = condX x26 (arun (cxM call callY yl gc nL an6 k) c6_15) (arun (cxM call callY yl gc nL an6 k) c6_16) [x0, x1, x2, x6, x7, x8, x10, x11, x12, x13, x14, x15, x16, x17, x18, x20, x21, x22, x23, x24, x25, x26, x36, x46, x73, x75, x94, x95, x96, x97, x121] H := by kernel_rfl
noncomputable def c6_17 : Code := cR c6_13
noncomputable def c6_18 : Code := cL c6_17
noncomputable def c6_19 : Code := cL c6_18
noncomputable def c6_20 : Code := cL c6_19
theorem c6_20_run (x0 x1 x2 x6 x7 x8 x10 x11 x12 x13 x14 x15 x16 x17 x18 x20 x21 x22 x23 x24 x25 x26 x36 x46 x73 x75 x94 x95 x96 x97 x121 : AV) (H : Heap) : arun (cxM call callY yl gc nL an6 k) c6_20 [x0, x1, x2, x6, x7, x8, x10, x11, x12, x13, x14, x15, x16, x17, x18, x20, x21, x22, x23, x24, x25, x26, x36, x46, x73, x75, x94, x95, x96, x97, x121] H = (pIndexAddr Try.prog 25 x23 x25 H).bind fun y0 => (pLoad Try.prog 5 y0 H).bind fun y1 => some (.normal, [x0, x1, x2, x6, x7, x8, y1, x11, x12, x13, x14, x15, x16, x17, x18, x20, x21, x22, x23, x24, x25, x26, x36, x46, x73, x75, x94, x95, x96, x97, x121], H) :=
  arun_region (by kernel_rfl) (by kernel_rfl)
noncomputable def c6_21 : Code := cR c6_19
noncomputable def c6_22 : Code := cL c6_21
theorem c6_22_run (x0 x1 x2 x6 x7 x8 x10 x11 x12 x13 x14 x15 x16 x17 x18 x20 x21 x22 x23 x24 x25 x26 x36 x46 x73 x75 x94 x95 x96 x97 x121 : AV) (H : Heap) : arun (cxM call callY yl gc nL an6 k) c6_22 [x0, x1, x2, x6, x7, x8, x10, x11, x12, x13, x14, x15, x16, x17, x18, x20, x21, x22, x23, x24, x25, x26, x36, x46, x73, x75, x94, x95, x96, x97, x121] H = (pConv Try.prog 5 3 x10).bind fun y1 => (pBin Try.prog .rem 3 y1 (.int .i64 30) H).bind fun y2 => (pBin Try.prog .add 3 (.int .i64 1) y2 H).bind fun y3 => some (.normal, [x0, x1, x2, x6, x7, x8, x10, y3, x12, x13, x14, x15, x16, x17, x18, x20, x21, x22, x23, x24, x25, x26, x36, x46, x73, x75, x94, x95, x96, x97, x121], H) :=
  arun_region (by kernel_rfl) (by kernel_rfl)
noncomputable def c6_23 : Code := cR c6_21
noncomputable def c6_24 : Code := cL c6_23
theorem c6_24_run (x0 x1 x2 x6 x7 x8 x10 x11 x12 x13 x14 x15 x16 x17 x18 x20 x21 x22 x23 x24 x25 x26 x36 x46 x73 x75 x94 x95 x96 x97 x121 : AV) (H : Heap) : arun (cxM call callY yl gc nL an6 k) c6_24 [x0, x1, x2, x6, x7, x8, x10, x11, x12, x13, x14, x15, x16, x17, x18, x20, x21, x22, x23, x24, x25, x26, x36, x46, x73, x75, x94, x95, x96, x97, x121] H = (pBin Try.prog .add 3 x8 x11 H).bind fun y2 => (pBin Try.prog .leq 3 y2 (.int .i64 200) H).bind fun y3 => some (.normal, [x0, x1, x2, x6, x7, x8, x10, x11, x12, x13, x14, x15, x16, x17, x18, x20, x21, x22, x23, x24, x25, x26, y3, x46, x73, x75, x94, x95, x96, x97, x121], H) :=
  arun_region (by kernel_rfl) (by kernel_rfl)
noncomputable def c6_25 : Code := cR c6_23
noncomputable def c6_26 : Code := cL c6_25
noncomputable def c6_27 : Code := cL c6_26
theorem c6_27_run (x0 x1 x2 x6 x7 x8 x10 x11 x12 x13 x14 x15 x16 x17 x18 x20 x21 x22 x23 x24 x25 x26 x36 x46 x73 x75 x94 x95 x96 x97 x121 : AV) (H : Heap) : arun (cxM call callY yl gc nL an6 k) c6_27 [x0, x1, x2, x6, x7, x8, x10, x11, x12, x13, x14, x15, x16, x17, x18, x20, x21, x22, x23, x24, x25, x26, x36, x46, x73, x75, x94, x95, x96, x97, x121] H = (pLit Try.prog 22 1 [(0, x11)]).bind fun m2 => (pAppend Try.prog 22 22 x7 (pRow 0 m2.1 m2.2 H.next H).1 (pRow 0 m2.1 m2.2 H.next H).2.next (pRow 0 m2.1 m2.2 H.next H).2).bind fun p3 => some (.normal, [x0, x1, x2, x6, p3.1, x8, x10, x11, x12, x13, x14, x15, x16, x17, x18, x20, x21, x22, x23, x24, x25, x26, x36, x46, x73, x75, x94, x95, x96, x97, x121], p3.2) :=
  arun_region (by kernel_rfl) (by kernel_rfl)
noncomputable def c6_28 : Code := cR c6_26
theorem c6_28_run (x0 x1 x2 x6 x7 x8 x10 x11 x12 x13 x14 x15 x16 x17 x18 x20 x21 x22 x23 x24 x25 x26 x36 x46 x73 x75 x94 x95 x96 x97 x121 : AV) (H : Heap) : arun (cxM call callY yl gc nL an6 k) c6_28 [x0, x1, x2, x6, x7, x8, x10, x11, x12, x13, x14, x15, x16, x17, x18, x20, x21, x22, x23, x24, x25, x26, x36, x46, x73, x75, x94, x95, x96, x97, x121] H = (pBin Try.prog .add 3 x8 x11 H).bind fun y2 => some (.normal, [x0, x1, x2, x6, x7, y2, x10, x11, x12, x13, x14, x15, x16, x17, x18, x20, x21, x22, x23, x24, x25, x26, x36, x46, x73, x75, x94, x95, x96, x97, x121], H) :=
  arun_region (by kernel_rfl) (by kernel_rfl)
theorem c6_26_run (fr : List AV) (H : Heap) : arun (cxM call callY yl gc nL an6 k) c6_26 fr H = seqX (arun (cxM call callY yl gc nL an6 k) c6_27) (arun (cxM call callY yl gc nL an6 k) c6_28) fr H := by kernel_rfl
noncomputable def c6_29 : Code := cR c6_25
theorem c6_29_run (fr : List AV) (H : Heap) : arun (cxM call callY yl gc nL an6 k) c6_29 fr H = some (.normal, fr, H) := by kernel_rfl
theorem c6_25_run (x0 x1 x2 x6 x7 x8 x10 x11 x12 x13 x14 x15 x16 x17 x18 x20 x21 x22 x23 x24 x25 x26 x36 x46 x73 x75 x94 x95 x96 x97 x121 : AV) (H : Heap) : arun (cxM call callY yl gc nL an6 k) c6_25 [x0, x1, x2, x6, x7, x8, x10, x11, x12, x13, x14, x15, x16, x17, x18, x20, x21, x22, x23, x24, x25, x26, x36, x46, x73, x75, x94, x95, x96, x97, x121] H = condX x36 (arun (cxM call callY yl gc nL an6 k) c6_26) (arun (cxM call callY yl gc nL an6 k) c6_29) [x0, x1, x2, x6, x7, x8, x10, x11, x12, x13, x14, x15, x16, x17, x18, x20, x21, x22, x23, x24, x25, x26, x36, x46, x73, x75, x94, x95, x96, x97, x121] H := by kernel_rfl
theorem c6_23_run (fr : List AV) (H : Heap) : arun (cxM call callY yl gc nL an6 k) c6_23 fr H = seqX (arun (cxM call callY yl gc nL an6 k) c6_24) (arun (cxM call callY yl gc nL an6 k) c6_25) fr H := by kernel_rfl
theorem c6_21_run (fr : List AV) (H : Heap) : arun (cxM call callY yl gc nL an6 k) c6_21 fr H = seqX (arun (cxM call callY yl gc nL an6 k) c6_22) (arun (cxM call callY yl gc nL an6 k) c6_23) fr H := by kernel_rfl
theorem c6_19_run (fr : List AV) (H : Heap) : arun (cxM call callY yl gc nL an6 k) c6_19 fr H = seqX (arun (cxM call callY yl gc nL an6 k) c6_20) (arun (cxM call callY yl gc nL an6 k) c6_21) fr H := by kernel_rfl
theorem c6_18_run (fr : List AV) (H : Heap) : arun (cxM call callY yl gc nL an6 k) c6_18 fr H = blockX 1 (arun (cxM call callY yl gc nL an6 k) c6_19) fr H := by kernel_rfl
noncomputable def c6_30 : Code := cR c6_17
theorem c6_30_run (x0 x1 x2 x6 x7 x8 x10 x11 x12 x13 x14 x15 x16 x17 x18 x20 x21 x22 x23 x24 x25 x26 x36 x46 x73 x75 x94 x95 x96 x97 x121 : AV) (H : Heap) : arun (cxM call callY yl gc nL an6 k) c6_30 [x0, x1, x2, x6, x7, x8, x10, x11, x12, x13, x14, x15, x16, x17, x18, x20, x21, x22, x23, x24, x25, x26, x36, x46, x73, x75, x94, x95, x96, x97, x121] H = (pBin Try.prog .add 3 x25 (.int .i64 1) H).bind fun y0 => some (.normal, [x0, x1, x2, x6, x7, x8, x10, x11, x12, x13, x14, x15, x16, x17, x18, x20, x21, x22, x23, x24, y0, x26, x36, x46, x73, x75, x94, x95, x96, x97, x121], H) :=
  arun_region (by kernel_rfl) (by kernel_rfl)
theorem c6_17_run (fr : List AV) (H : Heap) : arun (cxM call callY yl gc nL an6 k) c6_17 fr H = seqX (arun (cxM call callY yl gc nL an6 k) c6_18) (arun (cxM call callY yl gc nL an6 k) c6_30) fr H := by kernel_rfl
theorem c6_13_run (fr : List AV) (H : Heap) : arun (cxM call callY yl gc nL an6 k) c6_13 fr H = seqX (arun (cxM call callY yl gc nL an6 k) c6_14) (arun (cxM call callY yl gc nL an6 k) c6_17) fr H := by kernel_rfl
theorem c6_11_run (fr : List AV) (H : Heap) : arun (cxM call callY yl gc nL an6 k) c6_11 fr H = seqX (arun (cxM call callY yl gc nL an6 k) c6_12) (arun (cxM call callY yl gc nL an6 k) c6_13) fr H := by kernel_rfl
theorem c6_10_run (fr : List AV) (H : Heap) : arun (cxM call callY yl gc nL an6 k) c6_10 fr H = loopU (arun (cxM call callY yl gc nL an6 k) c6_11) gc nL [false, true, true, false, true, true, false, false, false, false, false, false, false, false, false, false, false, false, true, true, true, false, false, false, false, false, false, false, false, false, false] k fr H := Eq.trans (by kernel_rfl) (loopU_eq _ _ _ _ _ _ _)
theorem c6_9_run (fr : List AV) (H : Heap) : arun (cxM call callY yl gc nL an6 k) c6_9 fr H = blockX 0 (arun (cxM call callY yl gc nL an6 k) c6_10) fr H := by kernel_rfl
theorem c6_7_run (fr : List AV) (H : Heap) : arun (cxM call callY yl gc nL an6 k) c6_7 fr H = seqX (arun (cxM call callY yl gc nL an6 k) c6_8) (arun (cxM call callY yl gc nL an6 k) c6_9) fr H := by kernel_rfl
noncomputable def c6_31 : Code := cR c6_6
noncomputable def c6_32 : Code := cL c6_31
noncomputable def c6_33 : Code := cL c6_32
theorem c6_33_run (x0 x1 x2 x6 x7 x8 x10 x11 x12 x13 x14 x15 x16 x17 x18 x20 x21 x22 x23 x24 x25 x26 x36 x46 x73 x75 x94 x95 x96 x97 x121 : AV) (H : Heap) : arun (cxM call callY yl gc nL an6 k) c6_33 [x0, x1, x2, x6, x7, x8, x10, x11, x12, x13, x14, x15, x16, x17, x18, x20, x21, x22, x23, x24, x25, x26, x36, x46, x73, x75, x94, x95, x96, x97, x121] H = (pBin Try.prog .eql 3 x8 (.int .i64 0) H).bind fun y1 => some (.normal, [x0, x1, x2, x6, x7, x8, x10, x11, x12, x13, x14, x15, x16, x17, x18, x20, x21, x22, x23, x24, x25, x26, x36, y1, x73, x75, x94, x95, x96, x97, x121], H) :=
  arun_region (by kernel_rfl) (by kernel_rfl)
noncomputable def c6_34 : Code := cR c6_32
noncomputable def c6_35 : Code := cL c6_34
noncomputable def c6_36 : Code := cL c6_35
theorem c6_36_run (x0 x1 x2 x6 x7 x8 x10 x11 x12 x13 x14 x15 x16 x17 x18 x20 x21 x22 x23 x24 x25 x26 x36 x46 x73 x75 x94 x95 x96 x97 x121 : AV) (H : Heap) : arun (cxM call callY yl gc nL an6 k) c6_36 [x0, x1, x2, x6, x7, x8, x10, x11, x12, x13, x14, x15, x16, x17, x18, x20, x21, x22, x23, x24, x25, x26, x36, x46, x73, x75, x94, x95, x96, x97, x121] H = (pCall call 0 10 ([] ++ [] ++ []) H H.next).bind fun r0 => some (.normal, [x0, x1, x2, r0.1, x7, x8, x10, x11, x12, x13, x14, x15, x16, x17, x18, x20, x21, x22, x23, x24, x25, x26, x36, x46, x73, x75, x94, x95, x96, x97, x121], r0.2.1) :=
  arun_region (by kernel_rfl) (by kernel_rfl)
noncomputable def c6_37 : Code := cR c6_35
theorem c6_37_run (fr : List AV) (H : Heap) : arun (cxM call callY yl gc nL an6 k) c6_37 fr H = some (.ret, fr, H) := by kernel_rfl
theorem c6_35_run (fr : List AV) (H : Heap) : arun (cxM call callY yl gc nL an6 k) c6_35 fr H = seqX (arun (cxM call callY yl gc nL an6 k) c6_36) (arun (cxM call callY yl gc nL an6 k) c6_37) fr H := by kernel_rfl
noncomputable def c6_38 : Code := cR c6_34
theorem c6_38_run (fr : List AV) (H : Heap) : arun (cxM call callY yl gc nL an6 k) c6_38 fr H = some (.normal, fr, H) := by kernel_rfl
theorem c6_34_run (x0 x1 x2 x6 x7 x8 x10 x11 x12 x13 x14 x15 x16 x17 x18 x20 x21 x22 x23 x24 x25 x26 x36 x46 x73 x75 x94 x95 x96 x97 x121 : AV) (H : Heap) : arun (cxM call callY yl gc nL an6 k) c6_34 [x0, x1, x2, x6, x7, x8, x10, x11, x12, x13, x14, x15, x16, x17, x18, x20, x21, x22, x23, x24, x25, x26, x36, x46, x73, x75, x94, x95, x96, x97, x121] H = condX x46 (arun (cxM call callY yl gc nL an6 k) c6_35) (arun (cxM call callY yl gc nL an6 k) c6_38) [x0, x1, x2, x6, x7, x8, x10, x11, x12, x13, x14, x15, x16, x17, x18, x20, x21, x22, x23, x24, x25, x26, x36, x46, x73, x75, x94, x95, x96, x97, x121] H := by kernel_rfl
theorem c6_32_run (fr : List AV) (H : Heap) : arun (cxM call callY yl gc nL an6 k) c6_32 fr H = seqX (arun (cxM call callY yl gc nL an6 k) c6_33) (arun (cxM call callY yl gc nL an6 k) c6_34) fr H := by kernel_rfl
noncomputable def c6_39 : Code := cR c6_31
noncomputable def c6_40 : Code := cL c6_39
theorem c6_40_run (x0 x1 x2 x6 x7 x8 x10 x11 x12 x13 x14 x15 x16 x17 x18 x20 x21 x22 x23 x24 x25 x26 x36 x46 x73 x75 x94 x95 x96 x97 x121 : AV) (H : Heap) : arun (cxM call callY yl gc nL an6 k) c6_40 [x0, x1, x2, x6, x7, x8, x10, x11, x12, x13, x14, x15, x16, x17, x18, x20, x21, x22, x23, x24, x25, x26, x36, x46, x73, x75, x94, x95, x96, x97, x121] H = (pConv Try.prog 5 3 x1).bind fun y1 => (pBin Try.prog .rem 3 y1 x8 H).bind fun y3 => (pBin Try.prog .add 3 (.int .i64 1) y3 H).bind fun y4 => some (.normal, [x0, x1, x2, x6, x7, x8, x10, x11, y4, x13, x14, x15, x16, x17, x18, x20, x21, x22, x23, x24, x25, x26, x36, x46, x73, x75, x94, x95, x96, x97, x121], H) :=
  arun_region (by kernel_rfl) (by kernel_rfl)
noncomputable def c6_41 : Code := cR c6_39
noncomputable def c6_42 : Code := cL c6_41
theorem c6_42_run (x0 x1 x2 x6 x7 x8 x10 x11 x12 x13 x14 x15 x16 x17 x18 x20 x21 x22 x23 x24 x25 x26 x36 x46 x73 x75 x94 x95 x96 x97 x121 : AV) (H : Heap) : arun (cxM call callY yl gc nL an6 k) c6_42 [x0, x1, x2, x6, x7, x8, x10, x11, x12, x13, x14, x15, x16, x17, x18, x20, x21, x22, x23, x24, x25, x26, x36, x46, x73, x75, x94, x95, x96, x97, x121] H = (pConv Try.prog 5 3 x2).bind fun y1 => (pBin Try.prog .add 3 x12 (.int .i64 1) H).bind fun y3 => (pBin Try.prog .rem 3 y1 y3 H).bind fun y4 => some (.normal, [x0, x1, x2, x6, x7, x8, x10, x11, x12, y4, x14, x15, x16, x17, x18, x20, x21, x22, x23, x24, x25, x26, x36, x46, x73, x75, x94, x95, x96, x97, x121], H) :=
  arun_region (by kernel_rfl) (by kernel_rfl)
noncomputable def c6_43 : Code := cR c6_41
noncomputable def c6_44 : Code := cL c6_43
theorem c6_44_run (fr : List AV) (H : Heap) : arun (cxM call callY yl gc nL an6 k) c6_44 fr H = aregion0U (cxM call callY yl gc nL an6 k) 15 (opsOf c6_44) false (frzSlots nL an6.pos [7] fr H).1 (frzSlots nL an6.pos [7] fr H).2 :=
  arun_region (by kernel_rfl) (by kernel_rfl)
noncomputable def c6_44_k1 (x0 : AV) (x1 : AV) (x2 : AV) (x6 : AV) (x7 : AV) (x8 : AV) (x10 : AV) (x11 : AV) (x12 : AV) (x13 : AV) (x16 : AV) (x17 : AV) (x18 : AV) (x20 : AV) (x21 : AV) (x22 : AV) (x23 : AV) (x24 : AV) (x25 : AV) (x26 : AV) (x36 : AV) (x46 : AV) (x73 : AV) (x75 : AV) (x94 : AV) (x95 : AV) (x96 : AV) (x97 : AV) (x121 : AV) (r3 : Q4) : ARes := (pExtract r3.1 0).bind fun y5 => (pExtract r3.1 1).bind fun y6 => some (.normal, [x0, x1, x2, x6, x7, x8, x10, x11, x12, x13, y5, y6, x16, x17, x18, x20, x21, x22, x23, x24, x25, x26, x36, x46, x73, x75, x94, x95, x96, x97, x121], r3.2.1)
theorem c6_44_chain (x0 x1 x2 x6 x7 x8 x10 x11 x12 x13 x14 x15 x16 x17 x18 x20 x21 x22 x23 x24 x25 x26 x36 x46 x73 x75 x94 x95 x96 x97 x121 : AV) (H : Heap) : aregion0U (cxM call callY yl gc nL an6 k) 15 (opsOf c6_44) false [x0, x1, x2, x6, x7, x8, x10, x11, x12, x13, x14, x15, x16, x17, x18, x20, x21, x22, x23, x24, x25, x26, x36, x46, x73, x75, x94, x95, x96, x97, x121] H = (pCall call 0 24 ([] ++ [x7, x12, x13] ++ []) H H.next).bind fun r3 => (c6_44_k1 x0 x1 x2 x6 x7 x8 x10 x11 x12 x13 x16 x17 x18 x20 x21 x22 x23 x24 x25 x26 x36 x46 x73 x75 x94 x95 x96 x97 x121 r3) := by kernel_rfl
noncomputable def c6_45 : Code := cR c6_43
noncomputable def c6_46 : Code := cL c6_45
noncomputable def c6_46_k1 (x0 : AV) (x1 : AV) (x2 : AV) (x6 : AV) (x7 : AV) (x8 : AV) (x10 : AV) (x11 : AV) (x12 : AV) (x13 : AV) (x14 : AV) (x15 : AV) (x18 : AV) (x20 : AV) (x21 : AV) (x22 : AV) (x23 : AV) (x24 : AV) (x25 : AV) (x26 : AV) (x36 : AV) (x46 : AV) (x73 : AV) (x75 : AV) (x94 : AV) (x95 : AV) (x96 : AV) (x97 : AV) (x121 : AV) (r3 : Q4) : ARes := (pExtract r3.1 0).bind fun y5 => (pExtract r3.1 1).bind fun y6 => some (.normal, [x0, x1, x2, x6, x7, x8, x10, x11, x12, x13, x14, x15, y5, y6, x18, x20, x21, x22, x23, x24, x25, x26, x36, x46, x73, x75, x94, x95, x96, x97, x121], r3.2.1)
theorem c6_46_run (x0 x1 x2 x6 x7 x8 x10 x11 x12 x13 x14 x15 x16 x17 x18 x20 x21 x22 x23 x24 x25 x26 x36 x46 x73 x75 x94 x95 x96 x97 x121 : AV) (H : Heap) : arun (cxM call callY yl gc nL an6 k) c6_46 [x0, x1, x2, x6, x7, x8, x10, x11, x12, x13, x14, x15, x16, x17, x18, x20, x21, x22, x23, x24, x25, x26, x36, x46, x73, x75, x94, x95, x96, x97, x121] H = (pCall call 0 25 ([] ++ [x8, x12, x13] ++ []) H H.next).bind fun r3 => (c6_46_k1 x0 x1 x2 x6 x7 x8 x10 x11 x12 x13 x14 x15 x18 x20 x21 x22 x23 x24 x25 x26 x36 x46 x73 x75 x94 x95 x96 x97 x121 r3) :=
  arun_region (by kernel_rfl) (by kernel_rfl)
noncomputable def c6_47 : Code := cR c6_45
noncomputable def c6_48 : Code := cL c6_47
noncomputable def c6_49 : Code := cL c6_48
theorem c6_49_run (x0 x1 x2 x6 x7 x8 x10 x11 x12 x13 x14 x15 x16 x17 x18 x20 x21 x22 x23 x24 x25 x26 x36 x46 x73 x75 x94 x95 x96 x97 x121 : AV) (H : Heap) : arun (cxM call callY yl gc nL an6 k) c6_49 [x0, x1, x2, x6, x7, x8, x10, x11, x12, x13, x14, x15, x16, x17, x18, x20, x21, x22, x23, x24, x25, x26, x36, x46, x73, x75, x94, x95, x96, x97, x121] H = (pBin Try.prog .neq 37 x15 (.int .i64 0) H).bind fun y1 => some (.normal, [x0, x1, x2, x6, x7, x8, x10, x11, x12, x13, x14, x15, x16, x17, x18, x20, x21, x22, x23, x24, x25, x26, x36, x46, y1, x75, x94, x95, x96, x97, x121], H) :=
  arun_region (by kernel_rfl) (by kernel_rfl)
noncomputable def c6_50 : Code := cR c6_48
noncomputable def c6_51 : Code := cL c6_50
noncomputable def c6_52 : Code := cL c6_51
theorem c6_52_run (x0 x1 x2 x6 x7 x8 x10 x11 x12 x13 x14 x15 x16 x17 x18 x20 x21 x22 x23 x24 x25 x26 x36 x46 x73 x75 x94 x95 x96 x97 x121 : AV) (H : Heap) : arun (cxM call callY yl gc nL an6 k) c6_52 [x0, x1, x2, x6, x7, x8, x10, x11, x12, x13, x14, x15, x16, x17, x18, x20, x21, x22, x23, x24, x25, x26, x36, x46, x73, x75, x94, x95, x96, x97, x121] H = some (.normal, [x0, x1, x2, (.bool false), x7, x8, x10, x11, x12, x13, x14, x15, x16, x17, x18, x20, x21, x22, x23, x24, x25, x26, x36, x46, x73, x75, x94, x95, x96, x97, x121], H) :=
  arun_region (by kernel_rfl) (by kernel_rfl)
noncomputable def c6_53 : Code := cR c6_51
theorem c6_53_run (fr : List AV) (H : Heap) : arun (cxM call callY yl gc nL an6 k) c6_53 fr H = some (.ret, fr, H) := by kernel_rfl
theorem c6_51_run (fr : List AV) (H : Heap) : arun (cxM call callY yl gc nL an6 k) c6_51 fr H = seqX (arun (cxM call callY yl gc nL an6 k) c6_52) (arun (cxM call callY yl gc nL an6 k) c6_53) fr H := by kernel_rfl
noncomputable def c6_54 : Code := cR c6_50
theorem c6_54_run (fr : List AV) (H : Heap) : arun (cxM call callY yl gc nL an6 k) c6_54 fr H = some (.normal, fr, H) := by kernel_rfl
theorem c6_50_run (x0 x1 x2 x6 x7 x8 x10 x11 x12 x13 x14 x15 x16 x17 x18 x20 x21 x22 x23 x24 x25 x26 x36 x46 x73 x75 x94 x95 x96 x97 x121 : AV) (H : Heap) : arun (cxM call callY yl gc nL an6 k) c6_50 [x0, x1, x2, x6, x7, x8, x10, x11, x12, x13, x14, x15, x16, x17, x18, x20, x21, x22, x23, x24, x25, x26, x36, x46, x73, x75, x94, x95, x96, x97, x121] H = condX x73 (arun (cxM call callY yl gc nL an6 k) c6_51) (arun (cxM call callY yl gc nL an6 k) c6_54) [x0, x1, x2, x6, x7, x8, x10, x11, x12, x13, x14, x15, x16, x17, x18, x20, x21, x22, x23, x24, x25, x26, x36, x46, x73, x75, x94, x95, x96, x97, x121] H := by kernel_rfl
theorem c6_48_run (fr : List AV) (H : Heap) : arun (cxM call callY yl gc nL an6 k) c6_48 fr H = seqX (arun (cxM call callY yl gc nL an6 k) c6_49) (arun (cxM call callY yl gc nL an6 k) c6_50) fr H := by kernel_rfl
noncomputable def c6_55 : Code := cR c6_47
noncomputable def c6_56 : Code := cL c6_55
noncomputable def c6_57 : Code := cL c6_56
theorem c6_57_run (x0 x1 x2 x6 x7 x8 x10 x11 x12 x13 x14 x15 x16 x17 x18 x20 x21 x22 x23 x24 x25 x26 x36 x46 x73 x75 x94 x95 x96 x97 x121 : AV) (H : Heap) : arun (cxM call callY yl gc nL an6 k) c6_57 [x0, x1, x2, x6, x7, x8, x10, x11, x12, x13, x14, x15, x16, x17, x18, x20, x21, x22, x23, x24, x25, x26, x36, x46, x73, x75, x94, x95, x96, x97, x121] H = (pBin Try.prog .neq 37 x17 (.int .i64 0) H).bind fun y1 => some (.normal, [x0, x1, x2, x6, x7, x8, x10, x11, x12, x13, x14, x15, x16, x17, x18, x20, x21, x22, x23, x24, x25, x26, x36, x46, x73, y1, x94, x95, x96, x97, x121], H) :=
  arun_region (by kernel_rfl) (by kernel_rfl)
noncomputable def c6_58 : Code := cR c6_56
noncomputable def c6_59 : Code := cL c6_58
noncomputable def c6_60 : Code := cL c6_59
noncomputable def c6_60_k1 (x0 : AV) (x1 : AV) (x2 : AV) (x7 : AV) (x8 : AV) (x10 : AV) (x11 : AV) (x12 : AV) (x13 : AV) (x14 : AV) (x15 : AV) (x16 : AV) (x17 : AV) (x18 : AV) (x20 : AV) (x21 : AV) (x22 : AV) (x23 : AV) (x24 : AV) (x25 : AV) (x26 : AV) (x36 : AV) (x46 : AV) (x73 : AV) (x75 : AV) (x94 : AV) (x95 : AV) (x96 : AV) (x97 : AV) (x121 : AV) (y14 : AV) (q13 : Q4) : ARes := (gd y14 true ((pCall call 0 10 ([] ++ [] ++ []) q13.2.1 q13.2.1.next).bind fun r16 => some ((r16.1, r16.2.1, r16.2.2.1, r16.2.2.2) : Q4)) ((.tup [], q13.2.1, [], []) : Q4)).bind fun q16 => (pPick y14 q16.1 (.bool false)).bind fun y17 => some (.normal, [x0, x1, x2, y17, x7, x8, x10, x11, x12, x13, x14, x15, x16, x17, x18, x20, x21, x22, x23, x24, x25, x26, x36, x46, x73, x75, x94, x95, x96, x97, x121], q16.2.1)
noncomputable def c6_60_k2 (x0 : AV) (x1 : AV) (x2 : AV) (x7 : AV) (x8 : AV) (x10 : AV) (x11 : AV) (x12 : AV) (x13 : AV) (x14 : AV) (x15 : AV) (x16 : AV) (x17 : AV) (x18 : AV) (x20 : AV) (x21 : AV) (x22 : AV) (x23 : AV) (x24 : AV) (x25 : AV) (x26 : AV) (x36 : AV) (x46 : AV) (x73 : AV) (x75 : AV) (x94 : AV) (x95 : AV) (x96 : AV) (x97 : AV) (x121 : AV) (y5 : AV) (q9 : Q4) : ARes := (pPick y5 q9.1 (.bool false)).bind fun y10 => (gd y10 true (some ((x13, q9.2.1, [], []) : Q4)) ((.tup [], q9.2.1, [], []) : Q4)).bind fun q12 => (gd y10 true ((pBin Try.prog .eql 3 q12.1 (.int .i64 0) q12.2.1).bind fun y11 => some ((y11, q12.2.1, (rdOf q12.1), []) : Q4)) ((.tup [], q12.2.1, [], []) : Q4)).bind fun q13 => (pPick y10 q13.1 (.bool false)).bind fun y14 => (c6_60_k1 (call := call) x0 x1 x2 x7 x8 x10 x11 x12 x13 x14 x15 x16 x17 x18 x20 x21 x22 x23 x24 x25 x26 x36 x46 x73 x75 x94 x95 x96 x97 x121 y14 q13)
noncomputable def c6_60_k3 (x0 : AV) (x1 : AV) (x2 : AV) (x7 : AV) (x8 : AV) (x10 : AV) (x11 : AV) (x12 : AV) (x13 : AV) (x14 : AV) (x15 : AV) (x16 : AV) (x17 : AV) (x18 : AV) (x20 : AV) (x21 : AV) (x22 : AV) (x23 : AV) (x24 : AV) (x25 : AV) (x26 : AV) (x36 : AV) (x46 : AV) (x73 : AV) (x75 : AV) (x94 : AV) (x95 : AV) (x96 : AV) (x97 : AV) (x121 : AV) (y1 : AV) (q4 : Q4) : ARes := (pPick y1 q4.1 (.bool false)).bind fun y5 => (gd y5 true (some ((x8, q4.2.1, [], []) : Q4)) ((.tup [], q4.2.1, [], []) : Q4)).bind fun q7 => (gd y5 true ((pBin Try.prog .rem 3 q7.1 (.int .i64 2) q7.2.1).bind fun y6 => some ((y6, q7.2.1, (rdOf q7.1), []) : Q4)) ((.tup [], q7.2.1, [], []) : Q4)).bind fun q8 => (gd y5 true ((pBin Try.prog .eql 3 q8.1 (.int .i64 1) q8.2.1).bind fun y6 => some ((y6, q8.2.1, (rdOf q8.1), []) : Q4)) ((.tup [], q8.2.1, [], []) : Q4)).bind fun q9 => (c6_60_k2 (call := call) x0 x1 x2 x7 x8 x10 x11 x12 x13 x14 x15 x16 x17 x18 x20 x21 x22 x23 x24 x25 x26 x36 x46 x73 x75 x94 x95 x96 x97 x121 y5 q9)
theorem c6_60_run (x0 x1 x2 x6 x7 x8 x10 x11 x12 x13 x14 x15 x16 x17 x18 x20 x21 x22 x23 x24 x25 x26 x36 x46 x73 x75 x94 x95 x96 x97 x121 : AV) (H : Heap) : arun (cxM call callY yl gc nL an6 k) c6_60 [x0, x1, x2, x6, x7, x8, x10, x11, x12, x13, x14, x15, x16, x17, x18, x20, x21, x22, x23, x24, x25, x26, x36, x46, x73, x75, x94, x95, x96, x97, x121] H = (pBin Try.prog .eql 37 x17 (.int .i64 4) H).bind fun y1 => (gd y1 true (some ((x14, H, [], []) : Q4)) ((.tup [], H, [], []) : Q4)).bind fun q3 => (gd y1 true ((pUn .not q3.1).bind fun y2 => some ((y2, q3.2.1, [], []) : Q4)) ((.tup [], q3.2.1, [], []) : Q4)).bind fun q4 => (c6_60_k3 (call := call) x0 x1 x2 x7 x8 x10 x11 x12 x13 x14 x15 x16 x17 x18 x20 x21 x22 x23 x24 x25 x26 x36 x46 x73 x75 x94 x95 x96 x97 x121 y1 q4) :=
  arun_region (by kernel_rfl) (by kernel_rfl)
noncomputable def c6_61 : Code := cR c6_59
theorem c6_61_run (fr : List AV) (H : Heap) : arun (cxM call callY yl gc nL an6 k) c6_61 fr H = some (.ret, fr, H) := by kernel_rfl
theorem c6_59_run (fr : List AV) (H : Heap) : arun (cxM call callY yl gc nL an6 k) c6_59 fr H = seqX (arun (cxM call callY yl gc nL an6 k) c6_60) (arun (cxM call callY yl gc nL an6 k) c6_61) fr H := by kernel_rfl
noncomputable def c6_62 : Code := cR c6_58
theorem c6_62_run (fr : List AV) (H : Heap) : arun (cxM call callY yl gc nL an6 k) c6_62 fr H = some (.normal, fr, H) := by kernel_rfl
theorem c6_58_run (x0 x1 x2 x6 x7 x8 x10 x11 x12 x13 x14 x15 x16 x17 x18 x20 x21 x22 x23 x24 x25 x26 x36 x46 x73 x75 x94 x95 x96 x97 x121 : AV) (H : Heap) : arun (cxM call callY yl gc nL an6 k) c6_58 [x0, x1, x2, x6, x7, x8, x10, x11, x12, x13, x14, x15, x16, x17, x18, x20, x21, x22, x23, x24, x25, x26, x36, x46, x73, x75, x94, x95, x96, x97, x121] H = condX x75 (arun (cxM call callY yl gc nL an6 k) c6_59) (arun (cxM call callY yl gc nL an6 k) c6_62) [x0, x1, x2, x6, x7, x8, x10, x11, x12, x13, x14, x15, x16, x17, x18, x20, x21, x22, x23, x24, x25, x26, x36, x46, x73, x75, x94, x95, x96, x97, x121] H := by kernel_rfl
theorem c6_56_run (fr : List AV) (H : Heap) : arun (cxM call callY yl gc nL an6 k) c6_56 fr H = seqX (arun (cxM call callY yl gc nL an6 k) c6_57) (arun (cxM call callY yl gc nL an6 k) c6_58) fr H := by kernel_rfl
noncomputable def c6_63 : Code := cR c6_55
noncomputable def c6_64 : Code := cL c6_63
theorem c6_64_run (x0 x1 x2 x6 x7 x8 x10 x11 x12 x13 x14 x15 x16 x17 x18 x20 x21 x22 x23 x24 x25 x26 x36 x46 x73 x75 x94 x95 x96 x97 x121 : AV) (H : Heap) : arun (cxM call callY yl gc nL an6 k) c6_64 [x0, x1, x2, x6, x7, x8, x10, x11, x12, x13, x14, x15, x16, x17, x18, x20, x21, x22, x23, x24, x25, x26, x36, x46, x73, x75, x94, x95, x96, x97, x121] H = some (.normal, [x0, x1, x2, x6, x7, x8, x10, x11, x12, x13, x14, x15, x16, x17, (.int .i64 0), x20, x21, x22, x23, x24, x25, x26, x36, x46, x73, x75, x94, x95, x96, x97, x121], H) :=
  arun_region (by kernel_rfl) (by kernel_rfl)
noncomputable def c6_65 : Code := cR c6_63
noncomputable def c6_66 : Code := cL c6_65
noncomputable def c6_67 : Code := cL c6_66
theorem c6_67_run (x0 x1 x2 x6 x7 x8 x10 x11 x12 x13 x14 x15 x16 x17 x18 x20 x21 x22 x23 x24 x25 x26 x36 x46 x73 x75 x94 x95 x96 x97 x121 : AV) (H : Heap) : arun (cxM call callY yl gc nL an6 k) c6_67 [x0, x1, x2, x6, x7, x8, x10, x11, x12, x13, x14, x15, x16, x17, x18, x20, x21, x22, x23, x24, x25, x26, x36, x46, x73, x75, x94, x95, x96, x97, x121] H = (pLen Try.prog 22 x16 H).bind fun y1 => some (.normal, [x0, x1, x2, x6, x7, x8, x10, x11, x12, x13, x14, x15, x16, x17, x18, x20, x21, x22, x23, x24, x25, x26, x36, x46, x73, x75, x16, y1, (.int .i64 0), x97, x121], H) :=
  arun_region (by kernel_rfl) (by kernel_rfl)
noncomputable def c6_68 : Code := cR c6_66
noncomputable def c6_69 : Code := cL c6_68
noncomputable def c6_70 : Code := cL c6_69
noncomputable def c6_71 : Code := cL c6_70
theorem c6_71_run (x0 x1 x2 x6 x7 x8 x10 x11 x12 x13 x14 x15 x16 x17 x18 x20 x21 x22 x23 x24 x25 x26 x36 x46 x73 x75 x94 x95 x96 x97 x121 : AV) (H : Heap) : arun (cxM call callY yl gc nL an6 k) c6_71 [x0, x1, x2, x6, x7, x8, x10, x11, x12, x13, x14, x15, x16, x17, x18, x20, x21, x22, x23, x24, x25, x26, x36, x46, x73, x75, x94, x95, x96, x97, x121] H = (pBin Try.prog .lss 3 x96 x95 H).bind fun y0 => some (.normal, [x0, x1, x2, x6, x7, x8, x10, x11, x12, x13, x14, x15, x16, x17, x18, x20, x21, x22, x23, x24, x25, x26, x36, x46, x73, x75, x94, x95, x96, y0, x121], H) :=
  arun_region (by kernel_rfl) (by kernel_rfl)
noncomputable def c6_72 : Code := cR c6_70
noncomputable def c6_73 : Code := cL c6_72
noncomputable def c6_74 : Code := cL c6_73
theorem c6_74_run (fr : List AV) (H : Heap) : arun (cxM call callY yl gc nL an6 k) c6_74 fr H = some (.normal, fr, H) := by kernel_rfl
noncomputable def c6_75 : Code := cR c6_73
theorem c6_75_run (fr : List AV) (H : Heap) : arun (cxM call callY yl gc nL an6 k) c6_75 fr H = some (.exit 2, fr, H) := by kernel_rfl
theorem c6_73_run (x0 x1 x2 x6 x7 x8 x10 x11 x12 x13 x14 x15 x16 x17 x18 x20 x21 x22 x23 x24 x25 x26 x36 x46 x73 x75 x94 x95 x96 x97 x121 : AV) (H : Heap) : arun (cxM call callY yl gc nL an6 k) c6_73 [x0, x1, x2, x6, x7, x8, x10, x11, x12, x13, x14, x15, x16, x17, x18, x20, x21, x22, x23, x24, x25, x26, x36, x46, x73, x75, x94, x95, x96, x97, x121] H = condX x97 (arun (cxM call callY yl gc nL an6 k) c6_74) (arun (cxM call callY yl gc nL an6 k) c6_75) [x0, x1, x2, x6, x7, x8, x10, x11, x12, x13, x14, x15, x16, x17, x18, x20, x21, x22, x23, x24, x25, x26, x36, x46, x73, x75, x94, x95, x96, x97, x121] H := by kernel_rfl
noncomputable def c6_76 : Code := cR c6_72
noncomputable def c6_77 : Code := cL c6_76
noncomputable def c6_78 : Code := cL c6_77
noncomputable def c6_79 : Code := cL c6_78
theorem c6_79_run (x0 x1 x2 x6 x7 x8 x10 x11 x12 x13 x14 x15 x16 x17 x18 x20 x21 x22 x23 x24 x25 x26 x36 x46 x73 x75 x94 x95 x96 x97 x121 : AV) (H : Heap) : arun (cxM call callY yl gc nL an6 k) c6_79 [x0, x1, x2, x6, x7, x8, x10, x11, x12, x13, x14, x15, x16, x17, x18, x20, x21, x22, x23, x24, x25, x26, x36, x46, x73, x75, x94, x95, x96, x97, x121] H = (pIndexAddr Try.prog 22 x94 x96 H).bind fun y0 => (pLoad Try.prog 3 y0 H).bind fun y1 => some (.normal, [x0, x1, x2, x6, x7, x8, x10, x11, x12, x13, x14, x15, x16, x17, x18, y1, x21, x22, x23, x24, x25, x26, x36, x46, x73, x75, x94, x95, x96, x97, x121], H) :=
  arun_region (by kernel_rfl) (by kernel_rfl)
noncomputable def c6_80 : Code := cR c6_78
theorem c6_80_run (x0 x1 x2 x6 x7 x8 x10 x11 x12 x13 x14 x15 x16 x17 x18 x20 x21 x22 x23 x24 x25 x26 x36 x46 x73 x75 x94 x95 x96 x97 x121 : AV) (H : Heap) : arun (cxM call callY yl gc nL an6 k) c6_80 [x0, x1, x2, x6, x7, x8, x10, x11, x12, x13, x14, x15, x16, x17, x18, x20, x21, x22, x23, x24, x25, x26, x36, x46, x73, x75, x94, x95, x96, x97, x121] H = (pBin Try.prog .add 3 x18 x20 H).bind fun y2 => some (.normal, [x0, x1, x2, x6, x7, x8, x10, x11, x12, x13, x14, x15, x16, x17, y2, x20, x21, x22, x23, x24, x25, x26, x36, x46, x73, x75, x94, x95, x96, x97, x121], H) :=
  arun_region (by kernel_rfl) (by kernel_rfl)
theorem c6_78_run (fr : List AV) (H : Heap) : arun (cxM call callY yl gc nL an6 k) c6_78 fr H = seqX (arun (cxM call callY yl gc nL an6 k) c6_79) (arun (cxM call callY yl gc nL an6 k) c6_80) fr H := by kernel_rfl
theorem c6_77_run (fr : List AV) (H : Heap) : arun (cxM call callY yl gc nL an6 k) c6_77 fr H = blockX 3 (arun (cxM call callY yl gc nL an6 k) c6_78) fr H := by kernel_rfl
noncomputable def c6_81 : Code := cR c6_76
theorem c6_81_run (x0 x1 x2 x6 x7 x8 x10 x11 x12 x13 x14 x15 x16 x17 x18 x20 x21 x22 x23 x24 x25 x26 x36 x46 x73 x75 x94 x95 x96 x97 x121 : AV) (H : Heap) : arun (cxM call callY yl gc nL an6 k) c6_81 [x0, x1, x2, x6, x7, x8, x10, x11, x12, x13, x14, x15, x16, x17, x18, x20, x21, x22, x23, x24, x25, x26, x36, x46, x73, x75, x94, x95, x96, x97, x121] H = (pBin Try.prog .add 3 x96 (.int .i64 1) H).bind fun y0 => some (.normal, [x0, x1, x2, x6, x7, x8, x10, x11, x12, x13, x14, x15, x16, x17, x18, x20, x21, x22, x23, x24, x25, x26, x36, x46, x73, x75, x94, x95, y0, x97, x121], H) :=
  arun_region (by kernel_rfl) (by kernel_rfl)
theorem c6_76_run (fr : List AV) (H : Heap) : arun (cxM call callY yl gc nL an6 k) c6_76 fr H = seqX (arun (cxM call callY yl gc nL an6 k) c6_77) (arun (cxM call callY yl gc nL an6 k) c6_81) fr H := by kernel_rfl
theorem c6_72_run (fr : List AV) (H : Heap) : arun (cxM call callY yl gc nL an6 k) c6_72 fr H = seqX (arun (cxM call callY yl gc nL an6 k) c6_73) (arun (cxM call callY yl gc nL an6 k) c6_76) fr H := by kernel_rfl
theorem c6_70_run (fr : List AV) (H : Heap) : arun (cxM call callY yl gc nL an6 k) c6_70 fr H = seqX (arun (cxM call callY yl gc nL an6 k) c6_71) (arun (cxM call callY yl gc nL an6 k) c6_72) fr H := by kernel_rfl
theorem c6_69_run (fr : List AV) (H : Heap) : arun (cxM call callY yl gc nL an6 k) c6_69 fr H = loopU (arun (cxM call callY yl gc nL an6 k) c6_70) gc nL [false, false, false, false, true, true, false, false, true, true, true, false, true, false, true, false, false, false, false, false, false, false, false, false, false, false, true, true, true, false, false] k fr H := Eq.trans (by kernel_rfl) (loopU_eq _ _ _ _ _ _ _)
theorem c6_68_run (fr : List AV) (H : Heap) : arun (cxM call callY yl gc nL an6 k) c6_68 fr H = blockX 2 (arun (cxM call callY yl gc nL an6 k) c6_69) fr H := by kernel_rfl
theorem c6_66_run (fr : List AV) (H : Heap) : arun (cxM call callY yl gc nL an6 k) c6_66 fr H = seqX (arun (cxM call callY yl gc nL an6 k) c6_67) (arun (cxM call callY yl gc nL an6 k) c6_68) fr H := by kernel_rfl
noncomputable def c6_82 : Code := cR c6_65
noncomputable def c6_83 : Code := cL c6_82
noncomputable def c6_83_k1 (x0 : AV) (x1 : AV) (x2 : AV) (x6 : AV) (x7 : AV) (x8 : AV) (x10 : AV) (x11 : AV) (x12 : AV) (x13 : AV) (x14 : AV) (x15 : AV) (x16 : AV) (x17 : AV) (x18 : AV) (x20 : AV) (x23 : AV) (x24 : AV) (x25 : AV) (x26 : AV) (x36 : AV) (x46 : AV) (x73 : AV) (x75 : AV) (x94 : AV) (x95 : AV) (x96 : AV) (x97 : AV) (x121 : AV) (r3 : Q4) : ARes := (pExtract r3.1 0).bind fun y5 => (pExtract r3.1 1).bind fun y6 => some (.normal, [x0, x1, x2, x6, x7, x8, x10, x11, x12, x13, x14, x15, x16, x17, x18, x20, y5, y6, x23, x24, x25, x26, x36, x46, x73, x75, x94, x95, x96, x97, x121], r3.2.1)
theorem c6_83_run (x0 x1 x2 x6 x7 x8 x10 x11 x12 x13 x14 x15 x16 x17 x18 x20 x21 x22 x23 x24 x25 x26 x36 x46 x73 x75 x94 x95 x96 x97 x121 : AV) (H : Heap) : arun (cxM call callY yl gc nL an6 k) c6_83 [x0, x1, x2, x6, x7, x8, x10, x11, x12, x13, x14, x15, x16, x17, x18, x20, x21, x22, x23, x24, x25, x26, x36, x46, x73, x75, x94, x95, x96, x97, x121] H = (pCall call 0 24 ([] ++ [x16, x12, x13] ++ []) H H.next).bind fun r3 => (c6_83_k1 x0 x1 x2 x6 x7 x8 x10 x11 x12 x13 x14 x15 x16 x17 x18 x20 x23 x24 x25 x26 x36 x46 x73 x75 x94 x95 x96 x97 x121 r3) :=
  arun_region (by kernel_rfl) (by kernel_rfl)
noncomputable def c6_84 : Code := cR c6_82
noncomputable def c6_85 : Code := cL c6_84
noncomputable def c6_86 : Code := cL c6_85
noncomputable def c6_86_k1 (x0 : AV) (x1 : AV) (x2 : AV) (x6 : AV) (x7 : AV) (x8 : AV) (x10 : AV) (x11 : AV) (x12 : AV) (x13 : AV) (x14 : AV) (x15 : AV) (x16 : AV) (x17 : AV) (x18 : AV) (x20 : AV) (x21 : AV) (x22 : AV) (x23 : AV) (x24 : AV) (x25 : AV) (x26 : AV) (x36 : AV) (x46 : AV) (x73 : AV) (x75 : AV) (x94 : AV) (x95 : AV) (x96 : AV) (x97 : AV) (y5 : AV) (q9 : Q4) : ARes := (pPick y5 (.bool true) q9.1).bind fun y10 => some (.normal, [x0, x1, x2, x6, x7, x8, x10, x11, x12, x13, x14, x15, x16, x17, x18, x20, x21, x22, x23, x24, x25, x26, x36, x46, x73, x75, x94, x95, x96, x97, y10], q9.2.1)
noncomputable def c6_86_k2 (x0 : AV) (x1 : AV) (x2 : AV) (x6 : AV) (x7 : AV) (x8 : AV) (x10 : AV) (x11 : AV) (x12 : AV) (x13 : AV) (x14 : AV) (x15 : AV) (x16 : AV) (x17 : AV) (x18 : AV) (x20 : AV) (x21 : AV) (x22 : AV) (x23 : AV) (x24 : AV) (x25 : AV) (x26 : AV) (x36 : AV) (x46 : AV) (x73 : AV) (x75 : AV) (x94 : AV) (x95 : AV) (x96 : AV) (x97 : AV) (y1 : AV) (q4 : Q4) : ARes := (pPick y1 (.bool true) q4.1).bind fun y5 => (gd y5 false (some ((x18, q4.2.1, [], []) : Q4)) ((.tup [], q4.2.1, [], []) : Q4)).bind fun q7 => (gd y5 false (some ((x8, q7.2.1, [], []) : Q4)) ((.tup [], q7.2.1, [], []) : Q4)).bind fun q8 => (gd y5 false ((pBin Try.prog .neq 3 q7.1 q8.1 q8.2.1).bind fun y6 => some ((y6, q8.2.1, (rdOf q7.1), []) : Q4)) ((.tup [], q8.2.1, [], []) : Q4)).bind fun q9 => (c6_86_k1 x0 x1 x2 x6 x7 x8 x10 x11 x12 x13 x14 x15 x16 x17 x18 x20 x21 x22 x23 x24 x25 x26 x36 x46 x73 x75 x94 x95 x96 x97 y5 q9)
theorem c6_86_run (x0 x1 x2 x6 x7 x8 x10 x11 x12 x13 x14 x15 x16 x17 x18 x20 x21 x22 x23 x24 x25 x26 x36 x46 x73 x75 x94 x95 x96 x97 x121 : AV) (H : Heap) : arun (cxM call callY yl gc nL an6 k) c6_86 [x0, x1, x2, x6, x7, x8, x10, x11, x12, x13, x14, x15, x16, x17, x18, x20, x21, x22, x23, x24, x25, x26, x36, x46, x73, x75, x94, x95, x96, x97, x121] H = (pBin Try.prog .neq 37 x22 (.int .i64 0) H).bind fun y1 => (gd y1 false (some ((x21, H, [], []) : Q4)) ((.tup [], H, [], []) : Q4)).bind fun q3 => (gd y1 false ((pUn .not q3.1).bind fun y2 => some ((y2, q3.2.1, [], []) : Q4)) ((.tup [], q3.2.1, [], []) : Q4)).bind fun q4 => (c6_86_k2 x0 x1 x2 x6 x7 x8 x10 x11 x12 x13 x14 x15 x16 x17 x18 x20 x21 x22 x23 x24 x25 x26 x36 x46 x73 x75 x94 x95 x96 x97 y1 q4) :=
  arun_region (by kernel_rfl) (by kernel_rfl)
noncomputable def c6_87 : Code := cR c6_85
noncomputable def c6_88 : Code := cL c6_87
noncomputable def c6_89 : Code := cL c6_88
theorem c6_89_run (x0 x1 x2 x6 x7 x8 x10 x11 x12 x13 x14 x15 x16 x17 x18 x20 x21 x22 x23 x24 x25 x26 x36 x46 x73 x75 x94 x95 x96 x97 x121 : AV) (H : Heap) : arun (cxM call callY yl gc nL an6 k) c6_89 [x0, x1, x2, x6, x7, x8, x10, x11, x12, x13, x14, x15, x16, x17, x18, x20, x21, x22, x23, x24, x25, x26, x36, x46, x73, x75, x94, x95, x96, x97, x121] H = some (.normal, [x0, x1, x2, (.bool false), x7, x8, x10, x11, x12, x13, x14, x15, x16, x17, x18, x20, x21, x22, x23, x24, x25, x26, x36, x46, x73, x75, x94, x95, x96, x97, x121], H) :=
  arun_region (by kernel_rfl) (by kernel_rfl)
noncomputable def c6_90 : Code := cR c6_88
theorem c6_90_run (fr : List AV) (H : Heap) : arun (cxM call callY yl gc nL an6 k) c6_90 fr H = some (.ret, fr, H) := by kernel_rfl
theorem c6_88_run (fr : List AV) (H : Heap) : arun (cxM call callY yl gc nL an6 k) c6_88 fr H = seqX (arun (cxM call callY yl gc nL an6 k) c6_89) (arun (cxM call callY yl gc nL an6 k) c6_90) fr H := by kernel_rfl
noncomputable def c6_91 : Code := cR c6_87
theorem c6_91_run (fr : List AV) (H : Heap) : arun (cxM call callY yl gc nL an6 k) c6_91 fr H = some (.normal, fr, H) := by kernel_rfl
theorem c6_87_run (x0 x1 x2 x6 x7 x8 x10 x11 x12 x13 x14 x15 x16 x17 x18 x20 x21 x22 x23 x24 x25 x26 x36 x46 x73 x75 x94 x95 x96 x97 x121 : AV) (H : Heap) : arun (cxM call callY yl gc nL an6 k) c6_87 [x0, x1, x2, x6, x7, x8, x10, x11, x12, x13, x14, x15, x16, x17, x18, x20, x21, x22, x23, x24, x25, x26, x36, x46, x73, x75, x94, x95, x96, x97, x121] H = condX x121 (arun (cxM call callY yl gc nL an6 k) c6_88) (arun (cxM call callY yl gc nL an6 k) c6_91) [x0, x1, x2, x6, x7, x8, x10, x11, x12, x13, x14, x15, x16, x17, x18, x20, x21, x22, x23, x24, x25, x26, x36, x46, x73, x75, x94, x95, x96, x97, x121] H := by kernel_rfl
theorem c6_85_run (fr : List AV) (H : Heap) : arun (cxM call callY yl gc nL an6 k) c6_85 fr H = seqX (arun (cxM call callY yl gc nL an6 k) c6_86) (arun (cxM call callY yl gc nL an6 k) c6_87) fr H := by kernel_rfl
noncomputable def c6_92 : Code := cR c6_84
noncomputable def c6_93 : Code := cL c6_92
theorem c6_93_run (fr : List AV) (H : Heap) : arun (cxM call callY yl gc nL an6 k) c6_93 fr H = aregion0U (cxM call callY yl gc nL an6 k) 30 (opsOf c6_93) false (frzSlots nL an6.pos [7] fr H).1 (frzSlots nL an6.pos [7] fr H).2 :=
  arun_region (by kernel_rfl) (by kernel_rfl)
noncomputable def c6_93_k1 (x0 : AV) (x1 : AV) (x2 : AV) (x7 : AV) (x8 : AV) (x10 : AV) (x11 : AV) (x12 : AV) (x13 : AV) (x14 : AV) (x15 : AV) (x16 : AV) (x17 : AV) (x18 : AV) (x20 : AV) (x21 : AV) (x22 : AV) (x23 : AV) (x24 : AV) (x25 : AV) (x26 : AV) (x36 : AV) (x46 : AV) (x73 : AV) (x75 : AV) (x94 : AV) (x95 : AV) (x96 : AV) (x97 : AV) (x121 : AV) (y24 : AV) (q23 : Q4) : ARes := some (.normal, [x0, x1, x2, y24, x7, x8, x10, x11, x12, x13, x14, x15, x16, x17, x18, x20, x21, x22, x23, x24, x25, x26, x36, x46, x73, x75, x94, x95, x96, x97, x121], q23.2.1)
noncomputable def c6_93_k2 (x0 : AV) (x1 : AV) (x2 : AV) (x7 : AV) (x8 : AV) (x10 : AV) (x11 : AV) (x12 : AV) (x13 : AV) (x14 : AV) (x15 : AV) (x16 : AV) (x17 : AV) (x18 : AV) (x20 : AV) (x21 : AV) (x22 : AV) (x23 : AV) (x24 : AV) (x25 : AV) (x26 : AV) (x36 : AV) (x46 : AV) (x73 : AV) (x75 : AV) (x94 : AV) (x95 : AV) (x96 : AV) (x97 : AV) (x121 : AV) (y8 : AV) (q15 : Q4) (q19 : Q4) : ARes := (gd y8 false ((pPick q15.1 q19.1 (.bool false)).bind fun y9 => some ((y9, q19.2.1, [], []) : Q4)) ((.tup [], q19.2.1, [], []) : Q4)).bind fun q20 => (pPick y8 (.bool true) q20.1).bind fun y21 => (gd y21 true ((pCall call 0 10 ([] ++ [] ++ []) q20.2.1 q20.2.1.next).bind fun r23 => some ((r23.1, r23.2.1, r23.2.2.1, r23.2.2.2) : Q4)) ((.tup [], q20.2.1, [], []) : Q4)).bind fun q23 => (pPick y21 q23.1 (.bool false)).bind fun y24 => (c6_93_k1 x0 x1 x2 x7 x8 x10 x11 x12 x13 x14 x15 x16 x17 x18 x20 x21 x22 x23 x24 x25 x26 x36 x46 x73 x75 x94 x95 x96 x97 x121 y24 q23)
noncomputable def c6_93_k3 (x0 : AV) (x1 : AV) (x2 : AV) (x7 : AV) (x8 : AV) (x10 : AV) (x11 : AV) (x12 : AV) (x13 : AV) (x14 : AV) (x15 : AV) (x16 : AV) (x17 : AV) (x18 : AV) (x20 : AV) (x21 : AV) (x22 : AV) (x23 : AV) (x24 : AV) (x25 : AV) (x26 : AV) (x36 : AV) (x46 : AV) (x73 : AV) (x75 : AV) (x94 : AV) (x95 : AV) (x96 : AV) (x97 : AV) (x121 : AV) (y8 : AV) (q14 : Q4) : ARes := (gd y8 false (some ((q14.1, q14.2.1, [], []) : Q4)) ((.tup [], q14.2.1, [], []) : Q4)).bind fun q15 => (gd q15.1 true (some ((x16, q15.2.1, [], []) : Q4)) ((.tup [], q15.2.1, [], []) : Q4)).bind fun q16 => (gd q15.1 true (some ((x7, q16.2.1, [], []) : Q4)) ((.tup [], q16.2.1, [], []) : Q4)).bind fun q17 => (gd q15.1 true ((pCall call 0 26 ([] ++ [q16.1, q17.1] ++ []) q17.2.1 q17.2.1.next).bind fun r18 => some ((r18.1, r18.2.1, r18.2.2.1, r18.2.2.2) : Q4)) ((.tup [], q17.2.1, [], []) : Q4)).bind fun q18 => (gd q15.1 true ((pBin Try.prog .leq 3 q18.1 (.int .i64 0) q18.2.1).bind fun y9 => some ((y9, q18.2.1, (rdOf q18.1), []) : Q4)) ((.tup [], q18.2.1, [], []) : Q4)).bind fun q19 => (c6_93_k2 (call := call) x0 x1 x2 x7 x8 x10 x11 x12 x13 x14 x15 x16 x17 x18 x20 x21 x22 x23 x24 x25 x26 x36 x46 x73 x75 x94 x95 x96 x97 x121 y8 q15 q19)
noncomputable def c6_93_k4 (x0 : AV) (x1 : AV) (x2 : AV) (x7 : AV) (x8 : AV) (x10 : AV) (x11 : AV) (x12 : AV) (x13 : AV) (x14 : AV) (x15 : AV) (x16 : AV) (x17 : AV) (x18 : AV) (x20 : AV) (x21 : AV) (x22 : AV) (x23 : AV) (x24 : AV) (x25 : AV) (x26 : AV) (x36 : AV) (x46 : AV) (x73 : AV) (x75 : AV) (x94 : AV) (x95 : AV) (x96 : AV) (x97 : AV) (x121 : AV) (y8 : AV) (q7 : Q4) : ARes := (gd y8 false (some ((x16, q7.2.1, [], []) : Q4)) ((.tup [], q7.2.1, [], []) : Q4)).bind fun q10 => (gd y8 false ((pLen Try.prog 22 q10.1 q10.2.1).bind fun y9 => some ((y9, q10.2.1, (rdOf q10.1), []) : Q4)) ((.tup [], q10.2.1, [], []) : Q4)).bind fun q11 => (gd y8 false (some ((x7, q11.2.1, [], []) : Q4)) ((.tup [], q11.2.1, [], []) : Q4)).bind fun q12 => (gd y8 false ((pLen Try.prog 22 q12.1 q12.2.1).bind fun y9 => some ((y9, q12.2.1, (rdOf q12.1), []) : Q4)) ((.tup [], q12.2.1, [], []) : Q4)).bind fun q13 => (gd y8 false ((pBin Try.prog .eql 3 q11.1 q13.1 q13.2.1).bind fun y9 => some ((y9, q13.2.1, (rdOf q11.1), []) : Q4)) ((.tup [], q13.2.1, [], []) : Q4)).bind fun q14 => (c6_93_k3 (call := call) x0 x1 x2 x7 x8 x10 x11 x12 x13 x14 x15 x16 x17 x18 x20 x21 x22 x23 x24 x25 x26 x36 x46 x73 x75 x94 x95 x96 x97 x121 y8 q14)
noncomputable def c6_93_k5 (x0 : AV) (x1 : AV) (x2 : AV) (x7 : AV) (x8 : AV) (x10 : AV) (x11 : AV) (x12 : AV) (x13 : AV) (x14 : AV) (x15 : AV) (x16 : AV) (x17 : AV) (x18 : AV) (x20 : AV) (x21 : AV) (x22 : AV) (x23 : AV) (x24 : AV) (x25 : AV) (x26 : AV) (x36 : AV) (x46 : AV) (x73 : AV) (x75 : AV) (x94 : AV) (x95 : AV) (x96 : AV) (x97 : AV) (x121 : AV) (y1 : AV) (q4 : Q4) : ARes := (gd y1 false (some ((x7, q4.2.1, [], []) : Q4)) ((.tup [], q4.2.1, [], []) : Q4)).bind fun q5 => (gd y1 false ((pLen Try.prog 22 q5.1 q5.2.1).bind fun y2 => some ((y2, q5.2.1, (rdOf q5.1), []) : Q4)) ((.tup [], q5.2.1, [], []) : Q4)).bind fun q6 => (gd y1 false ((pBin Try.prog .lss 3 q4.1 q6.1 q6.2.1).bind fun y2 => some ((y2, q6.2.1, (rdOf q4.1), []) : Q4)) ((.tup [], q6.2.1, [], []) : Q4)).bind fun q7 => (pPick y1 (.bool true) q7.1).bind fun y8 => (c6_93_k4 (call := call) x0 x1 x2 x7 x8 x10 x11 x12 x13 x14 x15 x16 x17 x18 x20 x21 x22 x23 x24 x25 x26 x36 x46 x73 x75 x94 x95 x96 x97 x121 y8 q7)
theorem c6_93_chain (x0 x1 x2 x6 x7 x8 x10 x11 x12 x13 x14 x15 x16 x17 x18 x20 x21 x22 x23 x24 x25 x26 x36 x46 x73 x75 x94 x95 x96 x97 x121 : AV) (H : Heap) : aregion0U (cxM call callY yl gc nL an6 k) 30 (opsOf c6_93) false [x0, x1, x2, x6, x7, x8, x10, x11, x12, x13, x14, x15, x16, x17, x18, x20, x21, x22, x23, x24, x25, x26, x36, x46, x73, x75, x94, x95, x96, x97, x121] H = (pUn .not x14).bind fun y1 => (gd y1 false (some ((x16, H, [], []) : Q4)) ((.tup [], H, [], []) : Q4)).bind fun q3 => (gd y1 false ((pLen Try.prog 22 q3.1 q3.2.1).bind fun y2 => some ((y2, q3.2.1, (rdOf q3.1), []) : Q4)) ((.tup [], q3.2.1, [], []) : Q4)).bind fun q4 => (c6_93_k5 (call := call) x0 x1 x2 x7 x8 x10 x11 x12 x13 x14 x15 x16 x17 x18 x20 x21 x22 x23 x24 x25 x26 x36 x46 x73 x75 x94 x95 x96 x97 x121 y1 q4) := by kernel_rfl
noncomputable def c6_94 : Code := cR c6_92
theorem c6_94_run (fr : List AV) (H : Heap) : arun (cxM call callY yl gc nL an6 k) c6_94 fr H = some (.ret, fr, H) := by kernel_rfl
theorem c6_92_run (fr : List AV) (H : Heap) : arun (cxM call callY yl gc nL an6 k) c6_92 fr H = seqX (arun (cxM call callY yl gc nL an6 k) c6_93) (arun (cxM call callY yl gc nL an6 k) c6_94) fr H := by kernel_rfl
theorem c6_84_run (fr : List AV) (H : Heap) : arun (cxM call callY yl gc nL an6 k) c6_84 fr H = seqX (arun (cxM call callY yl gc nL an6 k) c6_85) (arun (cxM call callY yl gc nL an6 k) c6_92) fr H := by kernel_rfl
theorem c6_82_run (fr : List AV) (H : Heap) : arun (cxM call callY yl gc nL an6 k) c6_82 fr H = seqX (arun (cxM call callY yl gc nL an6 k) c6_83) (arun (cxM call callY yl gc nL an6 k) c6_84) fr H := by kernel_rfl
theorem c6_65_run (fr : List AV) (H : Heap) : arun (cxM call callY yl gc nL an6 k) c6_65 fr H = seqX (arun (cxM call callY yl gc nL an6 k) c6_66) (arun (cxM call callY yl gc nL an6 k) c6_82) fr H := by kernel_rfl
theorem c6_63_run (fr : List AV) (H : Heap) : arun (cxM call callY yl gc nL an6 k) c6_63 fr H = seqX (arun (cxM call callY yl gc nL an6 k) c6_64) (arun (cxM call callY yl gc nL an6 k) c6_65) fr H := by kernel_rfl
theorem c6_55_run (fr : List AV) (H : Heap) : arun (cxM call callY yl gc nL an6 k) c6_55 fr H = seqX (arun (cxM call callY yl gc nL an6 k) c6_56) (arun (cxM call callY yl gc nL an6 k) c6_63) fr H := by kernel_rfl
theorem c6_47_run (fr : List AV) (H : Heap) : arun (cxM call callY yl gc nL an6 k) c6_47 fr H = seqX (arun (cxM call callY yl gc nL an6 k) c6_48) (arun (cxM call callY yl gc nL an6 k) c6_55) fr H := by kernel_rfl
theorem c6_45_run (fr : List AV) (H : Heap) : arun (cxM call callY yl gc nL an6 k) c6_45 fr H = seqX (arun (cxM call callY yl gc nL an6 k) c6_46) (arun (cxM call callY yl gc nL an6 k) c6_47) fr H := by kernel_rfl
theorem c6_43_run (fr : List AV) (H : Heap) : arun (cxM call callY yl gc nL an6 k) c6_43 fr H = seqX (arun (cxM call callY yl gc nL an6 k) c6_44) (arun (cxM call callY yl gc nL an6 k) c6_45) fr H := by kernel_rfl
theorem c6_41_run (fr : List AV) (H : Heap) : arun (cxM call callY yl gc nL an6 k) c6_41 fr H = seqX (arun (cxM call callY yl gc nL an6 k) c6_42) (arun (cxM call callY yl gc nL an6 k) c6_43) fr H := by kernel_rfl
theorem c6_39_run (fr : List AV) (H : Heap) : arun (cxM call callY yl gc nL an6 k) c6_39 fr H = seqX (arun (cxM call callY yl gc nL an6 k) c6_40) (arun (cxM call callY yl gc nL an6 k) c6_41) fr H := by kernel_rfl
theorem c6_31_run (fr : List AV) (H : Heap) : arun (cxM call callY yl gc nL an6 k) c6_31 fr H = seqX (arun (cxM call callY yl gc nL an6 k) c6_32) (arun (cxM call callY yl gc nL an6 k) c6_39) fr H := by kernel_rfl
theorem c6_6_run (fr : List AV) (H : Heap) : arun (cxM call callY yl gc nL an6 k) c6_6 fr H = seqX (arun (cxM call callY yl gc nL an6 k) c6_7) (arun (cxM call callY yl gc nL an6 k) c6_31) fr H := by kernel_rfl
theorem c6_4_run (fr : List AV) (H : Heap) : arun (cxM call callY yl gc nL an6 k) c6_4 fr H = seqX (arun (cxM call callY yl gc nL an6 k) c6_5) (arun (cxM call callY yl gc nL an6 k) c6_6) fr H := by kernel_rfl
theorem c6_2_run (fr : List AV) (H : Heap) : arun (cxM call callY yl gc nL an6 k) c6_2 fr H = seqX (arun (cxM call callY yl gc nL an6 k) c6_3) (arun (cxM call callY yl gc nL an6 k) c6_4) fr H := by kernel_rfl
theorem c6_0_run (fr : List AV) (H : Heap) : arun (cxM call callY yl gc nL an6 k) c6_0 fr H = seqX (arun (cxM call callY yl gc nL an6 k) c6_1) (arun (cxM call callY yl gc nL an6 k) c6_2) fr H := by kernel_rfl
noncomputable def fin6 (nL : Nat) (r : ARes) : Option (AV × List ABlk) := finish Try.prog an6 Try.f6.results.toList nL r
theorem f6_eq {h : CallFn} {k : Nat} {x0 x1 x2 : AV} (hh : h 6 [x0, x1, x2] [] = none) : acall Try.prog annOf h (k + 1) 6 [x0, x1, x2] [] = fin6 0 (arun (cxM (acall Try.prog annOf h k) (callYM Try.prog annOf h k) none true 0 an6 k) c6_0 [x0, x1, x2, .undef, .undef, .undef, .undef, .undef, .undef, .undef, .undef, .undef, .undef, .undef, .undef, .undef, .undef, .undef, .undef, .undef, .undef, .undef, .undef, .undef, .undef, .undef, .undef, .undef, .undef, .undef, .undef] ⟨0, [], []⟩) :=
  acall_eq (fn := Try.f6) (c := c6_0) (by kernel_rfl) (by kernel_rfl) (Nat.le_of_ble_eq_true (by kernel_rfl)) hh
theorem f6_eqL {h : CallFn} {k : Nat} {x0 x1 x2 : AV} {L : List ABlk} (hh : h 6 [x0, x1, x2] L = none) : acall Try.prog annOf h (k + 1) 6 [x0, x1, x2] L = fin6 L.length (arun (cxM (acall Try.prog annOf h k) (callYM Try.prog annOf h k) none true L.length an6 k) c6_0 [x0, x1, x2, .undef, .undef, .undef, .undef, .undef, .undef, .undef, .undef, .undef, .undef, .undef, .undef, .undef, .undef, .undef, .undef, .undef, .undef, .undef, .undef, .undef, .undef, .undef, .undef, .undef, .undef, .undef, .undef] { heapOf L with outer := [] }) :=
  acall_eq (fn := Try.f6) (c := c6_0) (by kernel_rfl) (by kernel_rfl) (Nat.le_of_ble_eq_true (by kernel_rfl)) hh
theorem f6_fin_ret {y0 y1 y2 y6 y7 y8 y10 y11 y12 y13 y14 y15 y16 y17 y18 y20 y21 y22 y23 y24 y25 y26 y36 y46 y73 y75 y94 y95 y96 y97 y121 : AV} {H : Heap} {nL : Nat} : fin6 nL (some (.ret, [y0, y1, y2, y6, y7, y8, y10, y11, y12, y13, y14, y15, y16, y17, y18, y20, y21, y22, y23, y24, y25, y26, y36, y46, y73, y75, y94, y95, y96, y97, y121], H)) = (aret an6.frz nL y6 H).bind fun r => if H.outer.isEmpty then some r else none := by kernel_rfl
theorem f6_fin_normal {y0 y1 y2 y6 y7 y8 y10 y11 y12 y13 y14 y15 y16 y17 y18 y20 y21 y22 y23 y24 y25 y26 y36 y46 y73 y75 y94 y95 y96 y97 y121 : AV} {H : Heap} {nL : Nat} : fin6 nL (some (.normal, [y0, y1, y2, y6, y7, y8, y10, y11, y12, y13, y14, y15, y16, y17, y18, y20, y21, y22, y23, y24, y25, y26, y36, y46, y73, y75, y94, y95, y96, y97, y121], H)) = (aret an6.frz nL y6 H).bind fun r => if H.outer.isEmpty then some r else none := by kernel_rfl
noncomputable def c26_0 : Code := cBody Try.f26
noncomputable def c26_1 : Code := cL c26_0
theorem c26_1_run (x0 x1 x4 x5 x6 x7 x8 x9 x10 x11 x12 x19 x28 x35 : AV) (H : Heap) : arun (cxM call callY yl gc nL an26 k) c26_1 [x0, x1, x4, x5, x6, x7, x8, x9, x10, x11, x12, x19, x28, x35] H = some (.normal, [x0, x1, (.int .i64 0), x5, x6, x7, x8, x9, x10, x11, x12, x19, x28, x35], H) :=
  arun_region (by kernel_rfl) (by kernel_rfl)
noncomputable def c26_2 : Code := cR c26_0
noncomputable def c26_3 : Code := cL c26_2
noncomputable def c26_4 : Code := cL c26_3
theorem c26_4_run (x0 x1 x4 x5 x6 x7 x8 x9 x10 x11 x12 x19 x28 x35 : AV) (H : Heap) : arun (cxM call callY yl gc nL an26 k) c26_4 [x0, x1, x4, x5, x6, x7, x8, x9, x10, x11, x12, x19, x28, x35] H = (pLen Try.prog 22 x0 H).bind fun y1 => some (.normal, [x0, x1, x4, x5, x6, x7, x8, x0, y1, (.int .i64 0), x12, x19, x28, x35], H) :=
  arun_region (by kernel_rfl) (by kernel_rfl)
noncomputable def c26_5 : Code := cR c26_3
noncomputable def c26_6 : Code := cL c26_5
noncomputable def c26_7 : Code := cL c26_6
noncomputable def c26_8 : Code := cL c26_7
theorem c26_8_run (x0 x1 x4 x5 x6 x7 x8 x9 x10 x11 x12 x19 x28 x35 : AV) (H : Heap) : arun (cxM call callY yl gc nL an26 k) c26_8 [x0, x1, x4, x5, x6, x7, x8, x9, x10, x11, x12, x19, x28, x35] H = (pBin Try.prog .lss 3 x11 x10 H).bind fun y0 => some (.normal, [x0, x1, x4, x5, x6, x7, x8, x9, x10, x11, y0, x19, x28, x35], H) :=
  arun_region (by kernel_rfl) (by kernel_rfl)
noncomputable def c26_9 : Code := cR c26_7
noncomputable def c26_10 : Code := cL c26_9
noncomputable def c26_11 : Code := cL c26_10
theorem c26_11_run (fr : List AV) (H : Heap) : arun (cxM call callY yl gc nL an26 k) c26_11 fr H = some (.normal, fr, H) := by kernel_rfl
noncomputable def c26_12 : Code := cR c26_10
theorem c26_12_run (fr : List AV) (H : Heap) : arun (cxM call callY yl gc nL an26 k) c26_12 fr H = some (.exit 0, fr, H) := by kernel_rfl
theorem c26_10_run (x0 x1 x4 x5 x6 x7 x8 x9 x10 x11 x12 x19 x28 x35 : AV) (H : Heap) : arun (cxM call callY yl gc nL an26 k) c26_10 [x0, x1, x4, x5, x6, x7, x8, x9, x10, x11, x12, x19, x28, x35] H = condX x12 (arun (cxM call callY yl gc nL an26 k) c26_11) (arun (cxM call callY yl gc nL an26 k) c26_12) [x0, x1, x4, x5, x6, x7, x8, x9, x10, x11, x12, x19, x28, x35] H := by kernel_rfl
noncomputable def c26_13 : Code := cR c26_9
noncomputable def c26_14 : Code := cL c26_13
noncomputable def c26_15 : Code := cL c26_14
noncomputable def c26_16 : Code := cL c26_15
theorem c26_16_run (x0 x1 x4 x5 x6 x7 x8 x9 x10 x11 x12 x19 x28 x35 : AV) (H : Heap) : arun (cxM call callY yl gc nL an26 k) c26_16 [x0, x1, x4, x5, x6, x7, x8, x9, x10, x11, x12, x19, x28, x35] H = (pIndexAddr Try.prog 22 x9 x11 H).bind fun y1 => (pLoad Try.prog 3 y1 H).bind fun y2 => some (.normal, [x0, x1, x4, x11, y2, x7, x8, x9, x10, x11, x12, x19, x28, x35], H) :=
  arun_region (by kernel_rfl) (by kernel_rfl)
noncomputable def c26_17 : Code := cR c26_15
noncomputable def c26_18 : Code := cL c26_17
noncomputable def c26_19 : Code := cL c26_18
theorem c26_19_run (x0 x1 x4 x5 x6 x7 x8 x9 x10 x11 x12 x19 x28 x35 : AV) (H : Heap) : arun (cxM call callY yl gc nL an26 k) c26_19 [x0, x1, x4, x5, x6, x7, x8, x9, x10, x11, x12, x19, x28, x35] H = (pLen Try.prog 22 x1 H).bind fun y2 => (pBin Try.prog .geq 3 x5 y2 H).bind fun y3 => some (.normal, [x0, x1, x4, x5, x6, x7, x8, x9, x10, x11, x12, y3, x28, x35], H) :=
  arun_region (by kernel_rfl) (by kernel_rfl)
noncomputable def c26_20 : Code := cR c26_18
noncomputable def c26_21 : Code := cL c26_20
noncomputable def c26_22 : Code := cL c26_21
theorem c26_22_run (x0 x1 x4 x5 x6 x7 x8 x9 x10 x11 x12 x19 x28 x35 : AV) (H : Heap) : arun (cxM call callY yl gc nL an26 k) c26_22 [x0, x1, x4, x5, x6, x7, x8, x9, x10, x11, x12, x19, x28, x35] H = some (.normal, [x0, x1, (.int .i64 1), x5, x6, x7, x8, x9, x10, x11, x12, x19, x28, x35], H) :=
  arun_region (by kernel_rfl) (by kernel_rfl)
noncomputable def c26_23 : Code := cR c26_21
theorem c26_23_run (fr : List AV) (H : Heap) : arun (cxM call callY yl gc nL an26 k) c26_23 fr H = some (.ret, fr, H) := by kernel_rfl
theorem c26_21_run (fr : List AV) (H : Heap) : arun (cxM call callY yl gc nL an26 k) c26_21 fr H = seqX (arun (cxM call callY yl gc nL an26 k) c26_22) (arun (cxM call callY yl gc nL an26 k) c26_23) fr H := by kernel_rfl
noncomputable def c26_24 : Code := cR c26_20
theorem c26_24_run (fr : List AV) (H : Heap) : arun (cxM call callY yl gc nL an26 k) c26_24 fr H = some (.normal, fr, H) := by kernel_rfl
theorem c26_20_run (x0 x1 x4 x5 x6 x7 x8 x9 x10 x11 x12 x19 x28 x35 : AV) (H : Heap) : arun (cxM call callY yl gc nL an26 k) c26_20 [x0, x1, x4, x5, x6, x7, x8, x9, x10, x11, x12, x19, x28, x35] H = condX x19 (arun (cxM call callY yl gc nL an26 k) c26_21) (arun (cxM call callY yl gc nL an26 k) c26_24) [x0, x1, x4, x5, x6, x7, x8, x9, x10, x11, x12, x19, x28, x35] H := by kernel_rfl
theorem c26_18_run (fr : List AV) (H : Heap) : arun (cxM call callY yl gc nL an26 k) c26_18 fr H = seqX (arun (cxM call callY yl gc nL an26 k) c26_19) (arun (cxM call callY yl gc nL an26 k) c26_20) fr H := by kernel_rfl
noncomputable def c26_25 : Code := cR c26_17
noncomputable def c26_26 : Code := cL c26_25
theorem c26_26_run (x0 x1 x4 x5 x6 x7 x8 x9 x10 x11 x12 x19 x28 x35 : AV) (H : Heap) : arun (cxM call callY yl gc nL an26 k) c26_26 [x0, x1, x4, x5, x6, x7, x8, x9, x10, x11, x12, x19, x28, x35] H = (pIndexAddr Try.prog 22 x1 x5 H).bind fun y2 => (pLoad Try.prog 3 y2 H).bind fun y3 => some (.normal, [x0, x1, x4, x5, x6, y3, x8, x9, x10, x11, x12, x19, x28, x35], H) :=
  arun_region (by kernel_rfl) (by kernel_rfl)
noncomputable def c26_27 : Code := cR c26_25
noncomputable def c26_28 : Code := cL c26_27
theorem c26_28_run (x0 x1 x4 x5 x6 x7 x8 x9 x10 x11 x12 x19 x28 x35 : AV) (H : Heap) : arun (cxM call callY yl gc nL an26 k) c26_28 [x0, x1, x4, x5, x6, x7, x8, x9, x10, x11, x12, x19, x28, x35] H = (pCall call 0 75 ([] ++ [x6, x7] ++ []) H H.next).bind fun r2 => some (.normal, [x0, x1, x4, x5, x6, x7, r2.1, x9, x10, x11, x12, x19, x28, x35], r2.2.1) :=
  arun_region (by kernel_rfl) (by kernel_rfl)
noncomputable def c26_29 : Code := cR c26_27
noncomputable def c26_30 : Code := cL c26_29
theorem c26_30_run (x0 x1 x4 x5 x6 x7 x8 x9 x10 x11 x12 x19 x28 x35 : AV) (H : Heap) : arun (cxM call callY yl gc nL an26 k) c26_30 [x0, x1, x4, x5, x6, x7, x8, x9, x10, x11, x12, x19, x28, x35] H = (pBin Try.prog .neq 3 x8 (.int .i64 0) H).bind fun y1 => some (.normal, [x0, x1, x4, x5, x6, x7, x8, x9, x10, x11, x12, x19, y1, x35], H) :=
  arun_region (by kernel_rfl) (by kernel_rfl)
noncomputable def c26_31 : Code := cR c26_29
noncomputable def c26_32 : Code := cL c26_31
noncomputable def c26_33 : Code := cL c26_32
theorem c26_33_run (x0 x1 x4 x5 x6 x7 x8 x9 x10 x11 x12 x19 x28 x35 : AV) (H : Heap) : arun (cxM call callY yl gc nL an26 k) c26_33 [x0, x1, x4, x5, x6, x7, x8, x9, x10, x11, x12, x19, x28, x35] H = some (.normal, [x0, x1, x8, x5, x6, x7, x8, x9, x10, x11, x12, x19, x28, x35], H) :=
  arun_region (by kernel_rfl) (by kernel_rfl)
noncomputable def c26_34 : Code := cR c26_32
theorem c26_34_run (fr : List AV) (H : Heap) : arun (cxM call callY yl gc nL an26 k) c26_34 fr H = some (.ret, fr, H) := by kernel_rfl
theorem c26_32_run (fr : List AV) (H : Heap) : arun (cxM call callY yl gc nL an26 k) c26_32 fr H = seqX (arun (cxM call callY yl gc nL an26 k) c26_33) (arun (cxM call callY yl gc nL an26 k) c26_34) fr H := by kernel_rfl
noncomputable def c26_35 : Code := cR c26_31
theorem c26_35_run (fr : List AV) (H : Heap) : arun (cxM call callY yl gc nL an26 k) c26_35 fr H = some (.normal, fr, H) := by kernel_rfl
theorem c26_31_run (x0 x1 x4 x5 x6 x7 x8 x9 x10 x11 x12 x19 x28 x35 : AV) (H : Heap) : arun (cxM call callY yl gc nL an26 k) c26_31 [x0, x1, x4, x5, x6, x7, x8, x9, x10, x11, x12, x19, x28, x35] H = condX x28 (arun (cxM call callY yl gc nL an26 k) c26_32) (arun (cxM call callY yl gc nL an26 k) c26_35) [x0, x1, x4, x5, x6, x7, x8, x9, x10, x11, x12, x19, x28, x35] H := by kernel_rfl
theorem c26_29_run (fr : List AV) (H : Heap) : arun (cxM call callY yl gc nL an26 k) c26_29 fr H = seqX (arun (cxM call callY yl gc nL an26 k) c26_30) (arun (cxM call callY yl gc nL an26 k) c26_31) fr H := by kernel_rfl
theorem c26_27_run (fr : List AV) (H : Heap) : arun (cxM call callY yl gc nL an26 k) c26_27 fr H = seqX (arun (cxM call callY yl gc nL an26 k) c26_28) (arun (cxM call callY yl gc nL an26 k) c26_29) fr H := by kernel_rfl
theorem c26_25_run (fr : List AV) (H : Heap) : arun (cxM call callY yl gc nL an26 k) c26_25 fr H = seqX (arun (cxM call callY yl gc nL an26 k) c26_26) (arun (cxM call callY yl gc nL an26 k) c26_27) fr H := by kernel_rfl
theorem c26_17_run (fr : List AV) (H : Heap) : arun (cxM call callY yl gc nL an26 k) c26_17 fr H = seqX (arun (cxM call callY yl gc nL an26 k) c26_18) (arun (cxM call callY yl gc nL an26 k) c26_25) fr H := by kernel_rfl
theorem c26_15_run (fr : List AV) (H : Heap) : arun (cxM call callY yl gc nL an26 k) c26_15 fr H = seqX (arun (cxM call callY yl gc nL an26 k) c26_16) (arun (cxM call callY yl gc nL an26 k) c26_17) fr H := by kernel_rfl
theorem c26_14_run (fr : List AV) (H : Heap) : arun (cxM call callY yl gc nL an26 k) c26_14 fr H = blockX 1 (arun (cxM call callY yl gc nL an26 k) c26_15) fr H := by kernel_rfl
noncomputable def c26_36 : Code := cR c26_13
theorem c26_36_run (x0 x1 x4 x5 x6 x7 x8 x9 x10 x11 x12 x19 x28 x35 : AV) (H : Heap) : arun (cxM call callY yl gc nL an26 k) c26_36 [x0, x1, x4, x5, x6, x7, x8, x9, x10, x11, x12, x19, x28, x35] H = (pBin Try.prog .add 3 x11 (.int .i64 1) H).bind fun y0 => some (.normal, [x0, x1, x4, x5, x6, x7, x8, x9, x10, y0, x12, x19, x28, x35], H) :=
  arun_region (by kernel_rfl) (by kernel_rfl)
theorem c26_13_run (fr : List AV) (H : Heap) : arun (cxM call callY yl gc nL an26 k) c26_13 fr H = seqX (arun (cxM call callY yl gc nL an26 k) c26_14) (arun (cxM call callY yl gc nL an26 k) c26_36) fr H := by kernel_rfl
theorem c26_9_run (fr : List AV) (H : Heap) : arun (cxM call callY yl gc nL an26 k) c26_9 fr H = seqX (arun (cxM call callY yl gc nL an26 k) c26_10) (arun (cxM call callY yl gc nL an26 k) c26_13) fr H := by kernel_rfl
theorem c26_7_run (fr : List AV) (H : Heap) : arun (cxM call callY yl gc nL an26 k) c26_7 fr H = seqX (arun (cxM call callY yl gc nL an26 k) c26_8) (arun (cxM call callY yl gc nL an26 k) c26_9) fr H := by kernel_rfl
theorem c26_6_run (fr : List AV) (H : Heap) : arun (cxM call callY yl gc nL an26 k) c26_6 fr H = loopU (arun (cxM call callY yl gc nL an26 k) c26_7) gc nL [true, true, false, false, false, false, false, true, true, true, false, false, false, false] k fr H := Eq.trans (by kernel_rfl) (loopU_eq _ _ _ _ _ _ _)
theorem c26_5_run (fr : List AV) (H : Heap) : arun (cxM call callY yl gc nL an26 k) c26_5 fr H = blockX 0 (arun (cxM call callY yl gc nL an26 k) c26_6) fr H := by kernel_rfl
theorem c26_3_run (fr : List AV) (H : Heap) : arun (cxM call callY yl gc nL an26 k) c26_3 fr H = seqX (arun (cxM call callY yl gc nL an26 k) c26_4) (arun (cxM call callY yl gc nL an26 k) c26_5) fr H := by kernel_rfl
noncomputable def c26_37 : Code := cR c26_2
noncomputable def c26_38 : Code := cL c26_37
noncomputable def c26_39 : Code := cL c26_38
theorem c26_39_run (x0 x1 x4 x5 x6 x7 x8 x9 x10 x11 x12 x19 x28 x35 : AV) (H : Heap) : arun (cxM call callY yl gc nL an26 k) c26_39 [x0, x1, x4, x5, x6, x7, x8, x9, x10, x11, x12, x19, x28, x35] H = (pLen Try.prog 22 x0 H).bind fun y1 => (pLen Try.prog 22 x1 H).bind fun y3 => (pBin Try.prog .lss 3 y1 y3 H).bind fun y4 => some (.normal, [x0, x1, x4, x5, x6, x7, x8, x9, x10, x11, x12, x19, x28, y4], H) :=
  arun_region (by kernel_rfl) (by kernel_rfl)
noncomputable def c26_40 : Code := cR c26_38
noncomputable def c26_41 : Code := cL c26_40
noncomputable def c26_42 : Code := cL c26_41
theorem c26_42_run (x0 x1 x4 x5 x6 x7 x8 x9 x10 x11 x12 x19 x28 x35 : AV) (H : Heap) : arun (cxM call callY yl gc nL an26 k) c26_42 [x0, x1, x4, x5, x6, x7, x8, x9, x10, x11, x12, x19, x28, x35] H = some (.normal, [x0, x1, (.int .i64 (-1)), x5, x6, x7, x8, x9, x10, x11, x12, x19, x28, x35], H) :=
  arun_region (by kernel_rfl) (by kernel_rfl)
noncomputable def c26_43 : Code := cR c26_41
theorem c26_43_run (fr : List AV) (H : Heap) : arun (cxM call callY yl gc nL an26 k) c26_43 fr H = some (.ret, fr, H) := by kernel_rfl
theorem c26_41_run (fr : List AV) (H : Heap) : arun (cxM call callY yl gc nL an26 k) c26_41 fr H = seqX (arun (cxM call callY yl gc nL an26 k) c26_42) (arun (cxM call callY yl gc nL an26 k) c26_43) fr H := by kernel_rfl
noncomputable def c26_44 : Code := cR c26_40
theorem c26_44_run (fr : List AV) (H : Heap) : arun (cxM call callY yl gc nL an26 k) c26_44 fr H = some (.normal, fr, H) := by kernel_rfl
theorem c26_40_run (x0 x1 x4 x5 x6 x7 x8 x9 x10 x11 x12 x19 x28 x35 : AV) (H : Heap) : arun (cxM call callY yl gc nL an26 k) c26_40 [x0, x1, x4, x5, x6, x7, x8, x9, x10, x11, x12, x19, x28, x35] H = condX x35 (arun (cxM call callY yl gc nL an26 k) c26_41) (arun (cxM call callY yl gc nL an26 k) c26_44) [x0, x1, x4, x5, x6, x7, x8, x9, x10, x11, x12, x19, x28, x35] H := by kernel_rfl
theorem c26_38_run (fr : List AV) (H : Heap) : arun (cxM call callY yl gc nL an26 k) c26_38 fr H = seqX (arun (cxM call callY yl gc nL an26 k) c26_39) (arun (cxM call callY yl gc nL an26 k) c26_40) fr H := by kernel_rfl
noncomputable def c26_45 : Code := cR c26_37
noncomputable def c26_46 : Code := cL c26_45
theorem c26_46_run (x0 x1 x4 x5 x6 x7 x8 x9 x10 x11 x12 x19 x28 x35 : AV) (H : Heap) : arun (cxM call callY yl gc nL an26 k) c26_46 [x0, x1, x4, x5, x6, x7, x8, x9, x10, x11, x12, x19, x28, x35] H = some (.normal, [x0, x1, (.int .i64 0), x5, x6, x7, x8, x9, x10, x11, x12, x19, x28, x35], H) :=
  arun_region (by kernel_rfl) (by kernel_rfl)
noncomputable def c26_47 : Code := cR c26_45
theorem c26_47_run (fr : List AV) (H : Heap) : arun (cxM call callY yl gc nL an26 k) c26_47 fr H = some (.ret, fr, H) := by kernel_rfl
theorem c26_45_run (fr : List AV) (H : Heap) : arun (cxM call callY yl gc nL an26 k) c26_45 fr H = seqX (arun (cxM call callY yl gc nL an26 k) c26_46) (arun (cxM call callY yl gc nL an26 k) c26_47) fr H := by kernel_rfl
theorem c26_37_run (fr : List AV) (H : Heap) : arun (cxM call callY yl gc nL an26 k) c26_37 fr H = seqX (arun (cxM call callY yl gc nL an26 k) c26_38) (arun (cxM call callY yl gc nL an26 k) c26_45) fr H := by kernel_rfl
theorem c26_2_run (fr : List AV) (H : Heap) : arun (cxM call callY yl gc nL an26 k) c26_2 fr H = seqX (arun (cxM call callY yl gc nL an26 k) c26_3) (arun (cxM call callY yl gc nL an26 k) c26_37) fr H := by kernel_rfl
theorem c26_0_run (fr : List AV) (H : Heap) : arun (cxM call callY yl gc nL an26 k) c26_0 fr H = seqX (arun (cxM call callY yl gc nL an26 k) c26_1) (arun (cxM call callY yl gc nL an26 k) c26_2) fr H := by kernel_rfl
noncomputable def fin26 (nL : Nat) (r : ARes) : Option (AV × List ABlk) := finish Try.prog an26 Try.f26.results.toList nL r
theorem f26_eq {h : CallFn} {k : Nat} {x0 x1 : AV} (hh : h 26 [x0, x1] [] = none) : acall Try.prog annOf h (k + 1) 26 [x0, x1] [] = fin26 0 (arun (cxM (acall Try.prog annOf h k) (callYM Try.prog annOf h k) none true 0 an26 k) c26_0 [x0, x1, .undef, .undef, .undef, .undef, .undef, .undef, .undef, .undef, .undef, .undef, .undef, .undef] ⟨0, [], []⟩) :=
  acall_eq (fn := Try.f26) (c := c26_0) (by kernel_rfl) (by kernel_rfl) (Nat.le_of_ble_eq_true (by kernel_rfl)) hh
theorem f26_eqL {h : CallFn} {k : Nat} {x0 x1 : AV} {L : List ABlk} (hh : h 26 [x0, x1] L = none) : acall Try.prog annOf h (k + 1) 26 [x0, x1] L = fin26 L.length (arun (cxM (acall Try.prog annOf h k) (callYM Try.prog annOf h k) none true L.length an26 k) c26_0 [x0, x1, .undef, .undef, .undef, .undef, .undef, .undef, .undef, .undef, .undef, .undef, .undef, .undef] { heapOf L with outer := [] }) :=
  acall_eq (fn := Try.f26) (c := c26_0) (by kernel_rfl) (by kernel_rfl) (Nat.le_of_ble_eq_true (by kernel_rfl)) hh
theorem f26_fin_ret {y0 y1 y4 y5 y6 y7 y8 y9 y10 y11 y12 y19 y28 y35 : AV} {H : Heap} {nL : Nat} : fin26 nL (some (.ret, [y0, y1, y4, y5, y6, y7, y8, y9, y10, y11, y12, y19, y28, y35], H)) = (aret an26.frz nL y4 H).bind fun r => if H.outer.isEmpty then some r else none := by kernel_rfl
theorem f26_fin_normal {y0 y1 y4 y5 y6 y7 y8 y9 y10 y11 y12 y19 y28 y35 : AV} {H : Heap} {nL : Nat} : fin26 nL (some (.normal, [y0, y1, y4, y5, y6, y7, y8, y9, y10, y11, y12, y19, y28, y35], H)) = (aret an26.frz nL y4 H).bind fun r => if H.outer.isEmpty then some r else none := by kernel_rfl
noncomputable def c75_0 : Code := cBody Try.f75
noncomputable def c75_1 : Code := cL c75_0
theorem c75_1_run (x0 x1 x4 x5 x6 x11 x12 x13 x16 x19 : AV) (H : Heap) : arun (cxM call callY yl gc nL an75 k) c75_1 [x0, x1, x4, x5, x6, x11, x12, x13, x16, x19] H = some (.normal, [x0, x1, (.int .i64 0), x5, x6, x11, x12, x13, x16, x19], H) :=
  arun_region (by kernel_rfl) (by kernel_rfl)
noncomputable def c75_2 : Code := cR c75_0
noncomputable def c75_3 : Code := cL c75_2
theorem c75_3_run (x0 x1 x4 x5 x6 x11 x12 x13 x16 x19 : AV) (H : Heap) : arun (cxM call callY yl gc nL an75 k) c75_3 [x0, x1, x4, x5, x6, x11, x12, x13, x16, x19] H = (pCall call 0 117 ([] ++ [x0] ++ []) H H.next).bind fun r1 => some (.normal, [x0, x1, x4, r1.1, x6, x11, x12, x13, x16, x19], r1.2.1) :=
  arun_region (by kernel_rfl) (by kernel_rfl)
noncomputable def c75_4 : Code := cR c75_2
noncomputable def c75_5 : Code := cL c75_4
theorem c75_5_run (x0 x1 x4 x5 x6 x11 x12 x13 x16 x19 : AV) (H : Heap) : arun (cxM call callY yl gc nL an75 k) c75_5 [x0, x1, x4, x5, x6, x11, x12, x13, x16, x19] H = (pCall call 0 117 ([] ++ [x1] ++ []) H H.next).bind fun r1 => some (.normal, [x0, x1, x4, x5, r1.1, x11, x12, x13, x16, x19], r1.2.1) :=
  arun_region (by kernel_rfl) (by kernel_rfl)
noncomputable def c75_6 : Code := cR c75_4
noncomputable def c75_7 : Code := cL c75_6
noncomputable def c75_8 : Code := cL c75_7
theorem c75_8_run (x0 x1 x4 x5 x6 x11 x12 x13 x16 x19 : AV) (H : Heap) : arun (cxM call callY yl gc nL an75 k) c75_8 [x0, x1, x4, x5, x6, x11, x12, x13, x16, x19] H = some (.normal, [x0, x1, x4, x5, x6, x5, x12, x13, x16, x19], H) :=
  arun_region (by kernel_rfl) (by kernel_rfl)
noncomputable def c75_9 : Code := cR c75_7
noncomputable def c75_10 : Code := cL c75_9
noncomputable def c75_11 : Code := cL c75_10
noncomputable def c75_12 : Code := cL c75_11
theorem c75_12_run (x0 x1 x4 x5 x6 x11 x12 x13 x16 x19 : AV) (H : Heap) : arun (cxM call callY yl gc nL an75 k) c75_12 [x0, x1, x4, x5, x6, x11, x12, x13, x16, x19] H = some (.normal, [x0, x1, x4, x5, x6, x11, x6, x13, x16, x19], H) :=
  arun_region (by kernel_rfl) (by kernel_rfl)
noncomputable def c75_13 : Code := cR c75_11
noncomputable def c75_14 : Code := cL c75_13
noncomputable def c75_15 : Code := cL c75_14
theorem c75_15_run (x0 x1 x4 x5 x6 x11 x12 x13 x16 x19 : AV) (H : Heap) : arun (cxM call callY yl gc nL an75 k) c75_15 [x0, x1, x4, x5, x6, x11, x12, x13, x16, x19] H = some (.normal, [x0, x1, (.int .i64 0), x5, x6, x11, x12, x13, x16, x19], H) :=
  arun_region (by kernel_rfl) (by kernel_rfl)
noncomputable def c75_16 : Code := cR c75_14
theorem c75_16_run (fr : List AV) (H : Heap) : arun (cxM call callY yl gc nL an75 k) c75_16 fr H = some (.ret, fr, H) := by kernel_rfl
theorem c75_14_run (fr : List AV) (H : Heap) : arun (cxM call callY yl gc nL an75 k) c75_14 fr H = seqX (arun (cxM call callY yl gc nL an75 k) c75_15) (arun (cxM call callY yl gc nL an75 k) c75_16) fr H := by kernel_rfl
noncomputable def c75_17 : Code := cR c75_13
theorem c75_17_run (fr : List AV) (H : Heap) : arun (cxM call callY yl gc nL an75 k) c75_17 fr H = some (.normal, fr, H) := by kernel_rfl
theorem c75_13_run (x0 x1 x4 x5 x6 x11 x12 x13 x16 x19 : AV) (H : Heap) : arun (cxM call callY yl gc nL an75 k) c75_13 [x0, x1, x4, x5, x6, x11, x12, x13, x16, x19] H = condX x12 (arun (cxM call callY yl gc nL an75 k) c75_14) (arun (cxM call callY yl gc nL an75 k) c75_17) [x0, x1, x4, x5, x6, x11, x12, x13, x16, x19] H := by kernel_rfl
theorem c75_11_run (fr : List AV) (H : Heap) : arun (cxM call callY yl gc nL an75 k) c75_11 fr H = seqX (arun (cxM call callY yl gc nL an75 k) c75_12) (arun (cxM call callY yl gc nL an75 k) c75_13) fr H := by kernel_rfl
noncomputable def c75_18 : Code := cR c75_10
noncomputable def c75_19 : Code := cL c75_18
theorem c75_19_run (x0 x1 x4 x5 x6 x11 x12 x13 x16 x19 : AV) (H : Heap) : arun (cxM call callY yl gc nL an75 k) c75_19 [x0, x1, x4, x5, x6, x11, x12, x13, x16, x19] H = some (.normal, [x0, x1, (.int .i64 (-1)), x5, x6, x11, x12, x13, x16, x19], H) :=
  arun_region (by kernel_rfl) (by kernel_rfl)
noncomputable def c75_20 : Code := cR c75_18
theorem c75_20_run (fr : List AV) (H : Heap) : arun (cxM call callY yl gc nL an75 k) c75_20 fr H = some (.ret, fr, H) := by kernel_rfl
theorem c75_18_run (fr : List AV) (H : Heap) : arun (cxM call callY yl gc nL an75 k) c75_18 fr H = seqX (arun (cxM call callY yl gc nL an75 k) c75_19) (arun (cxM call callY yl gc nL an75 k) c75_20) fr H := by kernel_rfl
theorem c75_10_run (fr : List AV) (H : Heap) : arun (cxM call callY yl gc nL an75 k) c75_10 fr H = seqX (arun (cxM call callY yl gc nL an75 k) c75_11) (arun (cxM call callY yl gc nL an75 k) c75_18) fr H := by kernel_rfl
noncomputable def c75_21 : Code := cR c75_9
theorem c75_21_run (fr : List AV) (H : Heap) : arun (cxM call callY yl gc nL an75 k) c75_21 fr H = some (.normal, fr, H) := by kernel_rfl
theorem c75_9_run (x0 x1 x4 x5 x6 x11 x12 x13 x16 x19 : AV) (H : Heap) : arun (cxM call callY yl gc nL an75 k) c75_9 [x0, x1, x4, x5, x6, x11, x12, x13, x16, x19] H = condX x11 (arun (cxM call callY yl gc nL an75 k) c75_10) (arun (cxM call callY yl gc nL an75 k) c75_21) [x0, x1, x4, x5, x6, x11, x12, x13, x16, x19] H := by kernel_rfl
theorem c75_7_run (fr : List AV) (H : Heap) : arun (cxM call callY yl gc nL an75 k) c75_7 fr H = seqX (arun (cxM call callY yl gc nL an75 k) c75_8) (arun (cxM call callY yl gc nL an75 k) c75_9) fr H := by kernel_rfl
noncomputable def c75_22 : Code := cR c75_6
noncomputable def c75_23 : Code := cL c75_22
noncomputable def c75_24 : Code := cL c75_23
theorem c75_24_run (x0 x1 x4 x5 x6 x11 x12 x13 x16 x19 : AV) (H : Heap) : arun (cxM call callY yl gc nL an75 k) c75_24 [x0, x1, x4, x5, x6, x11, x12, x13, x16, x19] H = some (.normal, [x0, x1, x4, x5, x6, x11, x12, x6, x16, x19], H) :=
  arun_region (by kernel_rfl) (by kernel_rfl)
noncomputable def c75_25 : Code := cR c75_23
noncomputable def c75_26 : Code := cL c75_25
noncomputable def c75_27 : Code := cL c75_26
theorem c75_27_run (x0 x1 x4 x5 x6 x11 x12 x13 x16 x19 : AV) (H : Heap) : arun (cxM call callY yl gc nL an75 k) c75_27 [x0, x1, x4, x5, x6, x11, x12, x13, x16, x19] H = some (.normal, [x0, x1, (.int .i64 1), x5, x6, x11, x12, x13, x16, x19], H) :=
  arun_region (by kernel_rfl) (by kernel_rfl)
noncomputable def c75_28 : Code := cR c75_26
theorem c75_28_run (fr : List AV) (H : Heap) : arun (cxM call callY yl gc nL an75 k) c75_28 fr H = some (.ret, fr, H) := by kernel_rfl
theorem c75_26_run (fr : List AV) (H : Heap) : arun (cxM call callY yl gc nL an75 k) c75_26 fr H = seqX (arun (cxM call callY yl gc nL an75 k) c75_27) (arun (cxM call callY yl gc nL an75 k) c75_28) fr H := by kernel_rfl
noncomputable def c75_29 : Code := cR c75_25
theorem c75_29_run (fr : List AV) (H : Heap) : arun (cxM call callY yl gc nL an75 k) c75_29 fr H = some (.normal, fr, H) := by kernel_rfl
theorem c75_25_run (x0 x1 x4 x5 x6 x11 x12 x13 x16 x19 : AV) (H : Heap) : arun (cxM call callY yl gc nL an75 k) c75_25 [x0, x1, x4, x5, x6, x11, x12, x13, x16, x19] H = condX x13 (arun (cxM call callY yl gc nL an75 k) c75_26) (arun (cxM call callY yl gc nL an75 k) c75_29) [x0, x1, x4, x5, x6, x11, x12, x13, x16, x19] H := by kernel_rfl
theorem c75_23_run (fr : List AV) (H : Heap) : arun (cxM call callY yl gc nL an75 k) c75_23 fr H = seqX (arun (cxM call callY yl gc nL an75 k) c75_24) (arun (cxM call callY yl gc nL an75 k) c75_25) fr H := by kernel_rfl
noncomputable def c75_30 : Code := cR c75_22
noncomputable def c75_31 : Code := cL c75_30
noncomputable def c75_32 : Code := cL c75_31
theorem c75_32_run (x0 x1 x4 x5 x6 x11 x12 x13 x16 x19 : AV) (H : Heap) : arun (cxM call callY yl gc nL an75 k) c75_32 [x0, x1, x4, x5, x6, x11, x12, x13, x16, x19] H = (pBin Try.prog .lss 3 x0 x1 H).bind fun y2 => some (.normal, [x0, x1, x4, x5, x6, x11, x12, x13, y2, x19], H) :=
  arun_region (by kernel_rfl) (by kernel_rfl)
noncomputable def c75_33 : Code := cR c75_31
noncomputable def c75_34 : Code := cL c75_33
noncomputable def c75_35 : Code := cL c75_34
theorem c75_35_run (x0 x1 x4 x5 x6 x11 x12 x13 x16 x19 : AV) (H : Heap) : arun (cxM call callY yl gc nL an75 k) c75_35 [x0, x1, x4, x5, x6, x11, x12, x13, x16, x19] H = some (.normal, [x0, x1, (.int .i64 (-1)), x5, x6, x11, x12, x13, x16, x19], H) :=
  arun_region (by kernel_rfl) (by kernel_rfl)
noncomputable def c75_36 : Code := cR c75_34
theorem c75_36_run (fr : List AV) (H : Heap) : arun (cxM call callY yl gc nL an75 k) c75_36 fr H = some (.ret, fr, H) := by kernel_rfl
theorem c75_34_run (fr : List AV) (H : Heap) : arun (cxM call callY yl gc nL an75 k) c75_34 fr H = seqX (arun (cxM call callY yl gc nL an75 k) c75_35) (arun (cxM call callY yl gc nL an75 k) c75_36) fr H := by kernel_rfl
noncomputable def c75_37 : Code := cR c75_33
theorem c75_37_run (fr : List AV) (H : Heap) : arun (cxM call callY yl gc nL an75 k) c75_37 fr H = some (.normal, fr, H) := by kernel_rfl
theorem c75_33_run (x0 x1 x4 x5 x6 x11 x12 x13 x16 x19 : AV) (H : Heap) : arun (cxM call callY yl gc nL an75 k) c75_33 [x0, x1, x4, x5, x6, x11, x12, x13, x16, x19] H = condX x16 (arun (cxM call callY yl gc nL an75 k) c75_34) (arun (cxM call callY yl gc nL an75 k) c75_37) [x0, x1, x4, x5, x6, x11, x12, x13, x16, x19] H := by kernel_rfl
theorem c75_31_run (fr : List AV) (H : Heap) : arun (cxM call callY yl gc nL an75 k) c75_31 fr H = seqX (arun (cxM call callY yl gc nL an75 k) c75_32) (arun (cxM call callY yl gc nL an75 k) c75_33) fr H := by kernel_rfl
noncomputable def c75_38 : Code := cR c75_30
noncomputable def c75_39 : Code := cL c75_38
noncomputable def c75_40 : Code := cL c75_39
theorem c75_40_run (x0 x1 x4 x5 x6 x11 x12 x13 x16 x19 : AV) (H : Heap) : arun (cxM call callY yl gc nL an75 k) c75_40 [x0, x1, x4, x5, x6, x11, x12, x13, x16, x19] H = (pBin Try.prog .gtr 3 x0 x1 H).bind fun y2 => some (.normal, [x0, x1, x4, x5, x6, x11, x12, x13, x16, y2], H) :=
  arun_region (by kernel_rfl) (by kernel_rfl)
noncomputable def c75_41 : Code := cR c75_39
noncomputable def c75_42 : Code := cL c75_41
noncomputable def c75_43 : Code := cL c75_42
theorem c75_43_run (x0 x1 x4 x5 x6 x11 x12 x13 x16 x19 : AV) (H : Heap) : arun (cxM call callY yl gc nL an75 k) c75_43 [x0, x1, x4, x5, x6, x11, x12, x13, x16, x19] H = some (.normal, [x0, x1, (.int .i64 1), x5, x6, x11, x12, x13, x16, x19], H) :=
  arun_region (by kernel_rfl) (by kernel_rfl)
noncomputable def c75_44 : Code := cR c75_42
theorem c75_44_run (fr : List AV) (H : Heap) : arun (cxM call callY yl gc nL an75 k) c75_44 fr H = some (.ret, fr, H) := by kernel_rfl
theorem c75_42_run (fr : List AV) (H : Heap) : arun (cxM call callY yl gc nL an75 k) c75_42 fr H = seqX (arun (cxM call callY yl gc nL an75 k) c75_43) (arun (cxM call callY yl gc nL an75 k) c75_44) fr H := by kernel_rfl
noncomputable def c75_45 : Code := cR c75_41
theorem c75_45_run (fr : List AV) (H : Heap) : arun (cxM call callY yl gc nL an75 k) c75_45 fr H = some (.normal, fr, H) := by kernel_rfl
theorem c75_41_run (x0 x1 x4 x5 x6 x11 x12 x13 x16 x19 : AV) (H : Heap) : arun (cxM call callY yl gc nL an75 k) c75_41 [x0, x1, x4, x5, x6, x11, x12, x13, x16, x19] H = condX x19 (arun (cxM call callY yl gc nL an75 k) c75_42) (arun (cxM call callY yl gc nL an75 k) c75_45) [x0, x1, x4, x5, x6, x11, x12, x13, x16, x19] H := by kernel_rfl
theorem c75_39_run (fr : List AV) (H : Heap) : arun (cxM call callY yl gc nL an75 k) c75_39 fr H = seqX (arun (cxM call callY yl gc nL an75 k) c75_40) (arun (cxM call callY yl gc nL an75 k) c75_41) fr H := by kernel_rfl
noncomputable def c75_46 : Code := cR c75_38
noncomputable def c75_47 : Code := cL c75_46
theorem c75_47_run (x0 x1 x4 x5 x6 x11 x12 x13 x16 x19 : AV) (H : Heap) : arun (cxM call callY yl gc nL an75 k) c75_47 [x0, x1, x4, x5, x6, x11, x12, x13, x16, x19] H = some (.normal, [x0, x1, (.int .i64 0), x5, x6, x11, x12, x13, x16, x19], H) :=
  arun_region (by kernel_rfl) (by kernel_rfl)
noncomputable def c75_48 : Code := cR c75_46
theorem c75_48_run (fr : List AV) (H : Heap) : arun (cxM call callY yl gc nL an75 k) c75_48 fr H = some (.ret, fr, H) := by kernel_rfl
theorem c75_46_run (fr : List AV) (H : Heap) : arun (cxM call callY yl gc nL an75 k) c75_46 fr H = seqX (arun (cxM call callY yl gc nL an75 k) c75_47) (arun (cxM call callY yl gc nL an75 k) c75_48) fr H := by kernel_rfl
theorem c75_38_run (fr : List AV) (H : Heap) : arun (cxM call callY yl gc nL an75 k) c75_38 fr H = seqX (arun (cxM call callY yl gc nL an75 k) c75_39) (arun (cxM call callY yl gc nL an75 k) c75_46) fr H := by kernel_rfl
theorem c75_30_run (fr : List AV) (H : Heap) : arun (cxM call callY yl gc nL an75 k) c75_30 fr H = seqX (arun (cxM call callY yl gc nL an75 k) c75_31) (arun (cxM call callY yl gc nL an75 k) c75_38) fr H := by kernel_rfl
theorem c75_22_run (fr : List AV) (H : Heap) : arun (cxM call callY yl gc nL an75 k) c75_22 fr H = seqX (arun (cxM call callY yl gc nL an75 k) c75_23) (arun (cxM call callY yl gc nL an75 k) c75_30) fr H := by kernel_rfl
theorem c75_6_run (fr : List AV) (H : Heap) : arun (cxM call callY yl gc nL an75 k) c75_6 fr H = seqX (arun (cxM call callY yl gc nL an75 k) c75_7) (arun (cxM call callY yl gc nL an75 k) c75_22) fr H := by kernel_rfl
theorem c75_4_run (fr : List AV) (H : Heap) : arun (cxM call callY yl gc nL an75 k) c75_4 fr H = seqX (arun (cxM call callY yl gc nL an75 k) c75_5) (arun (cxM call callY yl gc nL an75 k) c75_6) fr H := by kernel_rfl
theorem c75_2_run (fr : List AV) (H : Heap) : arun (cxM call callY yl gc nL an75 k) c75_2 fr H = seqX (arun (cxM call callY yl gc nL an75 k) c75_3) (arun (cxM call callY yl gc nL an75 k) c75_4) fr H := by kernel_rfl
theorem c75_0_run (fr : List AV) (H : Heap) : arun (cxM call callY yl gc nL an75 k) c75_0 fr H = seqX (arun (cxM call callY yl gc nL an75 k) c75_1) (arun (cxM call callY yl gc nL an75 k) c75_2) fr H := by kernel_rfl
noncomputable def fin75 (nL : Nat) (r : ARes) : Option (AV × List ABlk) := finish Try.prog an75 Try.f75.results.toList nL r
theorem f75_eq {h : CallFn} {k : Nat} {x0 x1 : AV} (hh : h 75 [x0, x1] [] = none) : acall Try.prog annOf h (k + 1) 75 [x0, x1] [] = fin75 0 (arun (cxM (acall Try.prog annOf h k) (callYM Try.prog annOf h k) none true 0 an75 k) c75_0 [x0, x1, .undef, .undef, .undef, .undef, .undef, .undef, .undef, .undef] ⟨0, [], []⟩) :=
  acall_eq (fn := Try.f75) (c := c75_0) (by kernel_rfl) (by kernel_rfl) (Nat.le_of_ble_eq_true (by kernel_rfl)) hh
theorem f75_eqL {h : CallFn} {k : Nat} {x0 x1 : AV} {L : List ABlk} (hh : h 75 [x0, x1] L = none) : acall Try.prog annOf h (k + 1) 75 [x0, x1] L = fin75 L.length (arun (cxM (acall Try.prog annOf h k) (callYM Try.prog annOf h k) none true L.length an75 k) c75_0 [x0, x1, .undef, .undef, .undef, .undef, .undef, .undef, .undef, .undef] { heapOf L with outer := [] }) :=
  acall_eq (fn := Try.f75) (c := c75_0) (by kernel_rfl) (by kernel_rfl) (Nat.le_of_ble_eq_true (by kernel_rfl)) hh
theorem f75_fin_ret {y0 y1 y4 y5 y6 y11 y12 y13 y16 y19 : AV} {H : Heap} {nL : Nat} : fin75 nL (some (.ret, [y0, y1, y4, y5, y6, y11, y12, y13, y16, y19], H)) = (aret an75.frz nL y4 H).bind fun r => if H.outer.isEmpty then some r else none := by kernel_rfl
theorem f75_fin_normal {y0 y1 y4 y5 y6 y11 y12 y13 y16 y19 : AV} {H : Heap} {nL : Nat} : fin75 nL (some (.normal, [y0, y1, y4, y5, y6, y11, y12, y13, y16, y19], H)) = (aret an75.frz nL y4 H).bind fun r => if H.outer.isEmpty then some r else none := by kernel_rfl
noncomputable def c117_0 : Code := cBody Try.f117
noncomputable def c117_1 : Code := cL c117_0
theorem c117_1_run (x0 x2 : AV) (H : Heap) : arun (cxM call callY yl gc nL an117 k) c117_1 [x0, x2] H = some (.normal, [x0, (.bool false)], H) :=
  arun_region (by kernel_rfl) (by kernel_rfl)
noncomputable def c117_2 : Code := cR c117_0
noncomputable def c117_3 : Code := cL c117_2
theorem c117_3_run (x0 x2 : AV) (H : Heap) : arun (cxM call callY yl gc nL an117 k) c117_3 [x0, x2] H = (pBin Try.prog .neq 3 x0 x0 H).bind fun y2 => some (.normal, [x0, y2], H) :=
  arun_region (by kernel_rfl) (by kernel_rfl)
noncomputable def c117_4 : Code := cR c117_2
theorem c117_4_run (fr : List AV) (H : Heap) : arun (cxM call callY yl gc nL an117 k) c117_4 fr H = some (.ret, fr, H) := by kernel_rfl
theorem c117_2_run (fr : List AV) (H : Heap) : arun (cxM call callY yl gc nL an117 k) c117_2 fr H = seqX (arun (cxM call callY yl gc nL an117 k) c117_3) (arun (cxM call callY yl gc nL an117 k) c117_4) fr H := by kernel_rfl
theorem c117_0_run (fr : List AV) (H : Heap) : arun (cxM call callY yl gc nL an117 k) c117_0 fr H = seqX (arun (cxM call callY yl gc nL an117 k) c117_1) (arun (cxM call callY yl gc nL an117 k) c117_2) fr H := by kernel_rfl
noncomputable def fin117 (nL : Nat) (r : ARes) : Option (AV × List ABlk) := finish Try.prog an117 Try.f117.results.toList nL r
theorem f117_eq {h : CallFn} {k : Nat} {x0 : AV} (hh : h 117 [x0] [] = none) : acall Try.prog annOf h (k + 1) 117 [x0] [] = fin117 0 (arun (cxM (acall Try.prog annOf h k) (callYM Try.prog annOf h k) none true 0 an117 k) c117_0 [x0, .undef] ⟨0, [], []⟩) :=
  acall_eq (fn := Try.f117) (c := c117_0) (by kernel_rfl) (by kernel_rfl) (Nat.le_of_ble_eq_true (by kernel_rfl)) hh
theorem f117_eqL {h : CallFn} {k : Nat} {x0 : AV} {L : List ABlk} (hh : h 117 [x0] L = none) : acall Try.prog annOf h (k + 1) 117 [x0] L = fin117 L.length (arun (cxM (acall Try.prog annOf h k) (callYM Try.prog annOf h k) none true L.length an117 k) c117_0 [x0, .undef] { heapOf L with outer := [] }) :=
  acall_eq (fn := Try.f117) (c := c117_0) (by kernel_rfl) (by kernel_rfl) (Nat.le_of_ble_eq_true (by kernel_rfl)) hh
theorem f117_fin_ret {y0 y2 : AV} {H : Heap} {nL : Nat} : fin117 nL (some (.ret, [y0, y2], H)) = (aret an117.frz nL y2 H).bind fun r => if H.outer.isEmpty then some r else none := by kernel_rfl
theorem f117_fin_normal {y0 y2 : AV} {H : Heap} {nL : Nat} : fin117 nL (some (.normal, [y0, y2], H)) = (aret an117.frz nL y2 H).bind fun r => if H.outer.isEmpty then some r else none := by kernel_rfl
end Go.Proofs.Ytbkifahfbcalaaa
