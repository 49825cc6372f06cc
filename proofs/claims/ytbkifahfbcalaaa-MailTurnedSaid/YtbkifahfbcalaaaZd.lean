/-
  ANNOTATIONS of the functions of this seat, for the abstract machine: written by a program of our own (gen_ann.py).
  SYMBOLIC RUNS: the machine at this seat's program; pieces of code; what the machine's parts do at values of known shapes. Own work.
  TYPES: what the machine does at them; written by a program of our own (gen_ty.py), each checked by the kernel.
-/
import Derived.Test.YtbkifahfbcalaaaZa
import Derived.Test.YtbkifahfbcalaaaZc
import Derived.Test.YtbkifahfbcalaaaProg
import Derived.KernelRfl
import Derived.IntWalk
set_option linter.unusedSimpArgs false
set_option linter.unusedVariables false
namespace Go.Proofs.Ytbkifahfbcalaaa
open Go.Am
def an2 : Ann := { pos := [], loops := [], flags := [], pre := [], frz := true }
def an3 : Ann := { pos := [0, 1, 2, 3, 8], loops := [], flags := [], pre := [], frz := true }
def an4 : Ann := { pos := [0, 1, 4, 5, 6, 7, 8, 9, 10, 11, 12, 14, 16, 18, 19, 20, 21, 22, 23, 24, 26, 27, 29, 31, 32, 33, 34, 35, 89, 94, 95, 96, 97, 116, 123, 124, 125, 126, 148, 154, 155, 156, 157, 169, 178, 179, 180, 181, 203, 204, 205, 206, 207, 217, 251, 252, 253, 254, 265, 281, 282, 283, 284, 291, 292, 293, 294, 295, 309, 310, 311, 341], loops := [(66, [8, 19, 20, 27, 309, 310]), (60, [8, 10, 19, 20, 27, 281, 282, 283, 292, 293, 294]), (55, [8, 10, 19, 20, 27, 281, 282, 283]), (47, [5, 8, 10, 19, 20, 27, 251, 252, 253]), (37, [5, 7, 8, 10, 19, 20, 21, 178, 179, 180, 204, 205, 206]), (31, [5, 7, 8, 10, 19, 20, 178, 179, 180]), (23, [5, 6, 7, 8, 10, 154, 155, 156]), (16, [5, 6, 7, 8, 10, 12, 123, 124, 125]), (9, [5, 6, 7, 8, 10, 12, 94, 95, 96])], flags := [((1, 2), 1), ((3, 7), 1), ((7, 2), 1), ((10, 2), 1), ((17, 2), 1), ((24, 2), 1), ((28, 3), 1), ((29, 2), 1), ((45, 2), 1), ((48, 2), 1)], pre := [(5, [8]), (8, [8]), (15, [8]), (22, [8]), (25, [8]), (68, [8]), (69, [20, 27]), (72, [19])], frz := true }
def an5 : Ann := { pos := [0, 1, 2, 3, 4, 8], loops := [], flags := [], pre := [], frz := true }
def an6 : Ann := { pos := [0, 1, 2, 6, 7, 8, 10, 11, 12, 13, 14, 15, 16, 17, 18, 20, 21, 22, 23, 24, 25, 26, 36, 46, 73, 75, 94, 95, 96, 97, 121], loops := [(23, [7, 8, 12, 13, 14, 16, 18, 94, 95, 96]), (4, [1, 2, 7, 8, 23, 24, 25])], flags := [((1, 0), 2)], pre := [(15, [7]), (30, [7])], frz := true }
def an7 : Ann := { pos := [0, 1, 2, 3, 6, 46], loops := [], flags := [], pre := [], frz := true }
def an8 : Ann := { pos := [0, 1, 2, 6, 7, 8, 9, 10, 11, 12, 13, 14, 15, 16, 17, 18, 19, 20, 21, 22, 23, 24, 25, 26, 27, 28, 37, 41, 42, 43, 44, 69, 82, 103, 105, 106, 107, 108, 134, 135, 136, 137, 138, 155, 204], loops := [(34, [7, 8, 10, 12, 22, 135, 136, 137]), (25, [2, 7, 8, 10, 12, 16, 17, 18, 105, 106, 107]), (9, [2, 7, 8, 10, 11, 12, 41, 42, 43])], flags := [((1, 2), 1), ((6, 2), 1), ((10, 3), 1), ((19, 7), 1), ((20, 6), 1), ((23, 0), 2), ((26, 3), 1), ((35, 3), 1)], pre := [(29, [18])], frz := true }
def an9 : Ann := { pos := [0, 1, 2, 3, 8, 9, 10, 11, 12, 14, 15, 16, 17, 18, 19, 42, 45, 46, 47, 48, 80], loops := [(6, [1, 2, 45, 46, 47])], flags := [((8, 1), 3)], pre := [], frz := true }
def an10 : Ann := { pos := [0, 1, 2, 3, 4, 5, 6, 7, 8], loops := [], flags := [((1, 7), 1)], pre := [(5, [1])], frz := true }
def an11 : Ann := { pos := [0, 2, 3, 4, 5, 7, 8, 10, 20, 21, 22, 41, 42, 43, 44, 49, 60, 61, 62, 64, 65, 66, 67, 72], loops := [(18, [2, 3, 4, 8, 60, 61, 64, 65, 66]), (15, [2, 3, 4, 60, 61]), (9, [2, 3, 4, 41, 42, 43]), (4, [2, 3, 4, 20, 21])], flags := [((0, 0), 1), ((1, 2), 1), ((2, 4), 1), ((10, 2), 1), ((16, 0), 2), ((19, 2), 1), ((23, 2), 3)], pre := [(25, [4])], frz := true }
def an12 : Ann := { pos := [0, 1, 2, 4, 5, 6, 7, 8, 9, 10, 11, 12, 13, 18, 19, 20, 31, 32, 35, 50, 67], loops := [(10, [2, 6, 7, 8, 9, 31]), (4, [2, 6, 7, 18, 19])], flags := [((1, 2), 1), ((2, 0), 2), ((7, 0), 2), ((15, 7), 1)], pre := [(11, [7]), (12, [7]), (13, [7]), (21, [7, 8])], frz := true }
def an13 : Ann := { pos := [0, 1, 2, 3, 6, 7, 8, 9, 10, 11, 12, 13, 14, 15, 16, 25, 31, 32, 33, 42, 49, 64, 65, 66, 70], loops := [(17, [6, 8, 10, 64, 65]), (7, [6, 8, 10, 11, 31, 32])], flags := [((0, 1), 1), ((4, 0), 1), ((9, 7), 1)], pre := [(22, [10])], frz := true }
def an14 : Ann := { pos := [0, 1, 2, 3, 6, 7, 8, 9, 10, 11, 12, 22, 25, 26, 27], loops := [(6, [8, 10, 25, 26])], flags := [((4, 0), 2)], pre := [(11, [10])], frz := true }
def an15 : Ann := { pos := [0, 1, 4], loops := [], flags := [], pre := [], frz := true }
def an16 : Ann := { pos := [0, 1, 2, 3, 4], loops := [], flags := [], pre := [], frz := true }
def an17 : Ann := { pos := [0, 1, 4], loops := [], flags := [], pre := [], frz := true }
def an18 : Ann := { pos := [0, 1, 2, 3, 4], loops := [], flags := [], pre := [], frz := true }
def an19 : Ann := { pos := [0, 1, 2, 4, 5, 6, 10, 18], loops := [], flags := [], pre := [], frz := true }
def an20 : Ann := { pos := [0, 1, 4], loops := [], flags := [], pre := [], frz := true }
def an21 : Ann := { pos := [0, 2], loops := [], flags := [], pre := [], frz := true }
def an22 : Ann := { pos := [0, 1, 2], loops := [], flags := [], pre := [], frz := true }
def an23 : Ann := { pos := [0, 1, 2, 3, 4, 8, 9, 10, 11, 12, 13, 15, 16, 17, 18, 19, 20, 21, 22, 23, 33, 34, 35, 36, 48, 69, 92], loops := [(5, [1, 2, 3, 4, 9, 10, 11, 12, 13, 33, 34, 35])], flags := [((1, 5), 1), ((1, 6), 1), ((2, 1), 3), ((2, 3), 3), ((3, 0), 2), ((6, 2), 1), ((15, 7), 1), ((16, 7), 1)], pre := [(16, [13]), (20, [13])], frz := true }
def an24 : Ann := { pos := [0, 1, 2, 6, 7, 8, 9, 10, 13, 28, 29, 30, 31, 32, 43], loops := [(7, [1, 2, 8, 29, 30, 31])], flags := [], pre := [], frz := true }
def an25 : Ann := { pos := [0, 1, 2, 6, 7, 8, 9, 10, 11, 12, 13, 14, 15, 16, 31, 42, 49, 79], loops := [(12, [1, 9, 11, 12, 13, 14, 15, 16]), (10, [1, 9, 11, 12, 13, 14])], flags := [((3, 4), 1), ((8, 0), 2)], pre := [(16, [12])], frz := true }
def an26 : Ann := { pos := [0, 1, 4, 5, 6, 7, 8, 9, 10, 11, 12, 19, 28, 35], loops := [(2, [0, 1, 9, 10, 11])], flags := [], pre := [], frz := true }
def an27 : Ann := { pos := [0, 1, 4], loops := [], flags := [], pre := [], frz := true }
def an28 : Ann := { pos := [0, 1, 2], loops := [], flags := [], pre := [], frz := true }
def an29 : Ann := { pos := [0, 1, 2, 3, 6, 7, 9, 11, 12, 13, 14, 15, 16, 31, 32, 33, 34, 51, 52, 53, 54], loops := [(8, [1, 2, 3, 7, 51, 52, 53]), (3, [1, 2, 3, 7, 31, 32, 33])], flags := [((1, 13), 1), ((4, 2), 1), ((9, 2), 1), ((12, 1), 3)], pre := [], frz := true }
def an30 : Ann := { pos := [0, 2, 3, 4, 5, 6, 7, 8, 26, 27, 28, 44, 68, 69, 70, 77, 83, 84, 85, 102, 103, 104, 108], loops := [(25, [2, 3, 4, 102, 103]), (19, [2, 3, 4, 5, 7, 68, 69, 83, 84]), (14, [2, 3, 4, 5, 68, 69]), (9, [2, 3, 4, 5, 6]), (5, [2, 3, 4, 5, 26, 27])], flags := [((0, 0), 1), ((1, 2), 1), ((2, 11), 1), ((15, 4), 1), ((22, 2), 3)], pre := [(30, [4])], frz := true }
def an31 : Ann := { pos := [0, 1, 2, 3, 4, 5, 12], loops := [], flags := [], pre := [], frz := true }
def an32 : Ann := { pos := [0, 1, 2, 6, 7, 8, 9, 16, 22, 31, 68], loops := [], flags := [], pre := [(12, [9])], frz := true }
def an33 : Ann := { pos := [0, 1, 4, 21], loops := [], flags := [], pre := [], frz := true }
def an34 : Ann := { pos := [0, 1, 2, 3, 6, 7, 8, 9, 10, 12, 13, 21, 25, 26, 27, 28, 29, 56], loops := [(8, [2, 10, 26, 27, 28])], flags := [((6, 0), 2), ((9, 2), 1), ((11, 5), 3)], pre := [(13, [10]), (15, [10])], frz := true }
def an35 : Ann := { pos := [0, 1, 2, 3, 4, 5, 7, 8, 9, 10, 11, 13, 14, 15, 17, 18, 20, 21, 23, 24, 25, 26, 27, 31, 35, 37, 38, 39, 40, 62, 66, 73, 74, 75, 76, 108, 111, 112, 113, 114, 120, 121, 122, 123, 133, 138, 139, 140, 141], loops := [(40, [4, 7, 15, 18, 21, 23, 24, 120, 121, 122, 138, 139, 140]), (34, [4, 7, 15, 18, 21, 120, 121, 122]), (28, [2, 4, 7, 15, 18, 111, 112, 113]), (19, [2, 4, 5, 7, 14, 15, 73, 74, 75]), (8, [2, 4, 5, 7, 11, 37, 38, 39])], flags := [((9, 2), 1), ((16, 0), 2), ((20, 2), 1), ((26, 1), 1), ((32, 0), 2), ((35, 2), 1), ((42, 12), 3), ((42, 14), 1)], pre := [(24, [14]), (48, [21])], frz := true }
def an36 : Ann := { pos := [0, 1, 2, 3, 6, 7, 8, 9, 10, 12, 20, 24, 25, 26, 27, 37], loops := [(5, [2, 9, 24, 25, 26])], flags := [((6, 2), 1)], pre := [], frz := true }
def an37 : Ann := { pos := [0, 1, 4, 5, 10, 12, 13, 14, 24], loops := [(4, [0, 1, 12, 13])], flags := [], pre := [], frz := true }
def an38 : Ann := { pos := [0, 1, 2, 6, 7, 8, 9, 10, 11, 12, 13, 14, 15, 16, 17, 32, 37, 43, 54, 83, 98, 102, 122, 125, 137, 146, 180, 188], loops := [(31, [0, 1, 2, 8, 9, 16, 17]), (20, [0, 1, 2, 8, 9, 10, 11, 12, 13, 14, 15]), (12, [0, 1, 2, 8, 9, 10, 11, 12]), (9, [0, 1, 2, 8, 9, 10, 11]), (5, [0, 1, 2, 8, 9])], flags := [((7, 0), 2), ((14, 8), 3), ((14, 24), 1)], pre := [], frz := true }
def an39 : Ann := { pos := [0, 2, 4], loops := [], flags := [((3, 0), 1)], pre := [], frz := false }
def an40 : Ann := { pos := [0, 1, 2, 6, 7, 8, 9, 10, 11, 14, 25, 29, 37, 41, 46, 70], loops := [(12, [0, 1, 2, 9, 10, 11]), (6, [0, 1, 2, 8])], flags := [], pre := [], frz := true }
def an41 : Ann := { pos := [0], loops := [], flags := [((0, 0), 1)], pre := [], frz := true }
def an42 : Ann := { pos := [0], loops := [], flags := [], pre := [], frz := true }
def an43 : Ann := { pos := [0, 1, 2, 4, 5, 12], loops := [], flags := [], pre := [], frz := true }
def an44 : Ann := { pos := [0, 1, 4, 5, 7, 8, 9, 16], loops := [(2, [0, 1, 7, 8])], flags := [], pre := [], frz := true }
def an45 : Ann := { pos := [0, 1, 2, 3], loops := [], flags := [], pre := [], frz := true }
def an46 : Ann := { pos := [0, 1, 2, 3, 6, 7, 8, 9, 11, 12, 14, 18, 27, 30, 36, 37, 38, 39, 66, 76], loops := [(10, [1, 3, 9, 36, 37, 38])], flags := [((11, 2), 1), ((12, 5), 1), ((15, 9), 1)], pre := [], frz := true }
def an47 : Ann := { pos := [0, 1, 4, 5, 6, 7, 8, 9, 10, 26, 27, 28, 29, 62, 73], loops := [(3, [0, 1, 4, 5, 6, 26, 27, 28])], flags := [((0, 0), 1), ((11, 5), 3)], pre := [], frz := true }
def an48 : Ann := { pos := [0, 2], loops := [], flags := [], pre := [], frz := true }
def an49 : Ann := { pos := [0, 1, 4, 5, 6, 7, 8, 19, 20, 21, 22, 51], loops := [(3, [5, 6, 19, 20, 21])], flags := [((4, 3), 1)], pre := [], frz := true }
def an50 : Ann := { pos := [0, 1, 2, 4, 5, 6, 8, 25, 26, 38, 39, 40, 41], loops := [(5, [2, 4, 5, 6, 38, 39, 40])], flags := [((0, 1), 1), ((0, 2), 1), ((1, 6), 1), ((1, 13), 1)], pre := [], frz := true }
def an51 : Ann := { pos := [0, 1, 4, 5, 7, 8, 9, 16], loops := [(2, [0, 1, 7, 8])], flags := [], pre := [], frz := true }
def an52 : Ann := { pos := [0, 1, 4, 5, 7, 8, 9, 16], loops := [(2, [0, 1, 7, 8])], flags := [], pre := [], frz := true }
def an53 : Ann := { pos := [0, 1, 2, 14, 18, 27, 31], loops := [], flags := [], pre := [], frz := true }
def an54 : Ann := { pos := [0, 1, 2, 6], loops := [], flags := [], pre := [], frz := true }
def an55 : Ann := { pos := [0, 1, 2, 4, 5, 7, 12, 13, 14, 15], loops := [(3, [2, 5, 12, 13, 14])], flags := [((1, 0), 2)], pre := [(7, [5])], frz := true }
def an56 : Ann := { pos := [0, 1, 4, 5, 7, 8, 9, 16], loops := [(2, [0, 1, 7, 8])], flags := [], pre := [], frz := true }
def an57 : Ann := { pos := [0, 1, 4], loops := [], flags := [], pre := [], frz := true }
def an58 : Ann := { pos := [0, 2], loops := [], flags := [], pre := [], frz := true }
def an59 : Ann := { pos := [0, 1, 2, 3, 4, 5, 7, 30, 31, 32, 33], loops := [(4, [2, 3, 4, 5, 30, 31, 32])], flags := [((0, 1), 1), ((0, 2), 1), ((1, 2), 3), ((1, 5), 3), ((1, 12), 1), ((2, 2), 3), ((2, 9), 1), ((5, 2), 1)], pre := [(8, [4, 5])], frz := true }
def an60 : Ann := { pos := [0, 2, 4], loops := [], flags := [((3, 0), 1)], pre := [], frz := false }
def an61 : Ann := { pos := [0, 1, 2, 3, 4, 5, 17, 21, 26, 46, 50, 55, 64, 72, 85], loops := [(18, [1, 4, 5]), (13, [1, 4]), (6, [1, 3])], flags := [], pre := [], frz := true }
def an62 : Ann := { pos := [0, 1, 2, 4, 5, 6, 7, 8, 12, 20, 28], loops := [(8, [1, 2, 7, 8])], flags := [((6, 0), 2)], pre := [(11, [7])], frz := true }
def an63 : Ann := { pos := [0, 1, 2, 3, 6, 7, 8, 9, 10, 12, 14, 15, 16, 17, 18, 19, 20, 21, 22, 23, 24, 25, 26, 32, 51, 58, 99, 100, 110, 127, 162, 173, 176, 186, 194, 202], loops := [(36, [1, 2, 3, 6, 9, 18, 19, 20, 21, 22, 23, 25, 26]), (25, [1, 2, 3, 6, 9, 18, 19, 20, 21, 22]), (20, [1, 2, 3, 6, 9, 18]), (12, [1, 2, 3, 6, 9, 10, 12, 14, 15, 16]), (8, [1, 2, 3, 6, 9, 10, 12, 14])], flags := [((0, 1), 1), ((4, 0), 1), ((22, 6), 1)], pre := [(47, [9])], frz := true }
def an64 : Ann := { pos := [0, 1, 2, 3, 4], loops := [], flags := [], pre := [], frz := true }
def an65 : Ann := { pos := [0, 1, 2, 3, 6, 7, 8, 9, 10, 11, 13, 14, 20, 25, 32, 52], loops := [(12, [1, 2, 3, 9, 10, 11, 13]), (6, [1, 2, 3, 9, 10])], flags := [((4, 0), 2), ((9, 4), 1)], pre := [(16, [9])], frz := true }
def an66 : Ann := { pos := [0, 1, 2, 6, 7, 8, 9, 14, 15, 16, 17, 18, 30], loops := [(4, [1, 2, 15, 16, 17])], flags := [], pre := [], frz := true }
def an67 : Ann := { pos := [0, 1, 4], loops := [], flags := [], pre := [], frz := true }
def an68 : Ann := { pos := [0, 1, 2, 3, 4], loops := [], flags := [], pre := [], frz := true }
def an69 : Ann := { pos := [0, 1, 4, 5, 10, 12, 13, 14, 24], loops := [(4, [0, 1, 12, 13])], flags := [], pre := [], frz := true }
def an70 : Ann := { pos := [0, 2], loops := [], flags := [], pre := [], frz := true }
def an71 : Ann := { pos := [0, 1, 2, 6, 9], loops := [], flags := [], pre := [], frz := true }
def an72 : Ann := { pos := [0, 1, 4], loops := [], flags := [], pre := [], frz := true }
def an73 : Ann := { pos := [0, 1, 2, 3, 4, 5, 13, 17, 28], loops := [(7, [1, 4, 5])], flags := [], pre := [], frz := true }
def an74 : Ann := { pos := [0, 1, 2, 4, 5, 6, 7, 8, 9, 10, 16, 21, 22, 23, 36, 41, 82], loops := [(15, [1, 2, 5, 6, 7, 8, 9, 10, 21, 22]), (10, [1, 2, 5, 6, 7, 8, 9, 21, 22]), (6, [1, 2, 5, 6, 21, 22]), (3, [1, 2, 5, 6])], flags := [((1, 2), 1), ((8, 4), 1), ((18, 6), 3)], pre := [(4, [1000005]), (20, [5])], frz := true }
def an75 : Ann := { pos := [0, 1, 4, 5, 6, 11, 12, 13, 16, 19], loops := [], flags := [], pre := [], frz := true }
def an76 : Ann := { pos := [0, 1, 4, 5, 7, 8, 9, 16], loops := [(2, [0, 1, 7, 8])], flags := [], pre := [], frz := true }
def an77 : Ann := { pos := [0, 1, 2, 3, 6, 7, 9, 10, 11, 12, 14, 22, 26, 29, 41], loops := [(8, [1, 2, 3, 10, 11])], flags := [((6, 0), 2)], pre := [(14, [10])], frz := true }
def an78 : Ann := { pos := [0, 1, 4, 21], loops := [], flags := [], pre := [], frz := true }
def an79 : Ann := { pos := [0, 1, 2, 3, 4, 5, 6, 7, 8, 9, 10, 11, 12, 13, 15, 16, 18, 22, 29, 30, 31, 32, 38, 49, 111, 112, 113, 135, 136, 137, 138, 144, 145, 146, 147], loops := [(31, [5, 15, 16, 135, 136, 137, 144, 145, 146]), (27, [5, 135, 136, 137]), (22, [5, 111, 112]), (7, [5, 6, 29, 30, 31])], flags := [((4, 2), 1), ((8, 3), 1), ((10, 3), 1), ((15, 7), 3), ((28, 2), 1), ((29, 0), 2), ((32, 2), 1), ((35, 5), 3)], pre := [(38, [5])], frz := true }
def an81 : Ann := { pos := [0, 1], loops := [], flags := [], pre := [], frz := true }
def an82 : Ann := { pos := [0, 1, 2, 4, 5, 6, 7, 15], loops := [], flags := [], pre := [], frz := true }
def an83 : Ann := { pos := [0, 1, 4, 5, 6, 7, 8, 10, 26, 37], loops := [(8, [7, 8])], flags := [((6, 2), 1)], pre := [], frz := false }
def an84 : Ann := { pos := [0, 1, 2], loops := [], flags := [], pre := [], frz := true }
def an85 : Ann := { pos := [0, 1, 4, 5, 6, 7, 8, 9, 10, 30], loops := [(2, [0, 1, 7, 8, 9])], flags := [], pre := [], frz := true }
def an86 : Ann := { pos := [0, 2, 3, 7, 19], loops := [(2, [0, 3])], flags := [], pre := [], frz := true }
def an87 : Ann := { pos := [0, 1, 2, 4, 5, 6, 7, 8, 11, 30, 39], loops := [], flags := [], pre := [(12, [5])], frz := true }
def an88 : Ann := { pos := [0, 1, 2, 4], loops := [], flags := [], pre := [], frz := true }
def an89 : Ann := { pos := [0, 1, 2, 4, 5, 6, 7, 20], loops := [], flags := [], pre := [], frz := true }
def an90 : Ann := { pos := [0, 1, 4, 5, 6, 8, 10, 11, 12, 13, 14, 24, 25, 26, 27], loops := [(7, [0, 5, 6, 11, 12, 13, 24, 25, 26]), (4, [0, 5, 6, 11, 12, 13])], flags := [((1, 0), 2)], pre := [(13, [5])], frz := true }
def an91 : Ann := { pos := [0, 1, 2, 6], loops := [], flags := [], pre := [], frz := true }
def an92 : Ann := { pos := [0, 1, 4, 5, 7, 8, 9, 16], loops := [(2, [0, 1, 7, 8])], flags := [], pre := [], frz := true }
def an93 : Ann := { pos := [0, 1, 2, 3], loops := [], flags := [], pre := [], frz := true }
def an94 : Ann := { pos := [0, 1, 2, 6], loops := [], flags := [], pre := [], frz := true }
def an95 : Ann := { pos := [0, 2, 3], loops := [], flags := [((1, 0), 2)], pre := [], frz := false }
def an96 : Ann := { pos := [0, 1, 4, 5, 9, 20], loops := [(2, [0, 1, 5])], flags := [], pre := [], frz := true }
def an97 : Ann := { pos := [0, 1, 3], loops := [], flags := [], pre := [], frz := true }
def an98 : Ann := { pos := [0, 1, 2, 6, 7, 8, 20, 23], loops := [], flags := [((1, 11), 1)], pre := [(4, [7])], frz := true }
def an99 : Ann := { pos := [0, 1, 2, 3, 4], loops := [], flags := [], pre := [], frz := true }
def an100 : Ann := { pos := [0, 1, 4], loops := [], flags := [], pre := [], frz := true }
def an101 : Ann := { pos := [0, 1, 2], loops := [], flags := [], pre := [], frz := true }
def an102 : Ann := { pos := [0, 1, 3], loops := [], flags := [], pre := [], frz := true }
def an103 : Ann := { pos := [0, 1, 3], loops := [], flags := [], pre := [], frz := true }
def an104 : Ann := { pos := [0, 1, 2, 3, 4], loops := [], flags := [], pre := [], frz := true }
def an105 : Ann := { pos := [0, 1, 4, 5, 7, 8, 9, 16], loops := [(2, [0, 1, 7, 8])], flags := [], pre := [], frz := true }
def an106 : Ann := { pos := [0, 2, 4], loops := [], flags := [((3, 0), 1)], pre := [], frz := false }
def an107 : Ann := { pos := [0, 2, 3, 5, 6, 7, 8, 9], loops := [(3, [3, 6, 7, 8])], flags := [((1, 0), 2), ((5, 2), 3)], pre := [(7, [3])], frz := true }
def an108 : Ann := { pos := [0, 2, 3, 7, 31], loops := [(2, [0, 3])], flags := [], pre := [], frz := true }
def an109 : Ann := { pos := [0, 1, 2, 4, 5, 10, 20], loops := [(2, [1, 2, 5])], flags := [], pre := [], frz := true }
def an110 : Ann := { pos := [0, 1, 2, 3, 6, 7, 8, 9, 10, 11, 13, 17, 26, 30, 42, 46, 59, 74, 77, 97], loops := [(21, [1, 2, 3, 9, 10, 13]), (12, [1, 2, 3, 9]), (7, [1, 2, 3, 8])], flags := [((14, 4), 1)], pre := [], frz := true }
def an111 : Ann := { pos := [0, 1, 2, 6, 7, 11, 29, 34], loops := [(2, [0, 1, 2, 7])], flags := [], pre := [], frz := true }
def an112 : Ann := { pos := [0, 1, 4, 5, 9, 17], loops := [(2, [0, 1, 5])], flags := [], pre := [], frz := true }
def an113 : Ann := { pos := [0, 1, 2, 6, 7, 8, 9, 14, 15, 16, 17, 18, 30], loops := [(4, [1, 2, 15, 16, 17])], flags := [((5, 3), 1), ((6, 4), 1)], pre := [], frz := true }
def an114 : Ann := { pos := [0, 1, 2, 3, 4], loops := [], flags := [], pre := [], frz := true }
def an115 : Ann := { pos := [0, 1, 4, 5, 10, 12, 13, 14, 24], loops := [(4, [0, 1, 12, 13])], flags := [], pre := [], frz := true }
def an116 : Ann := { pos := [0, 1, 4], loops := [], flags := [], pre := [], frz := true }
def an117 : Ann := { pos := [0, 2], loops := [], flags := [], pre := [], frz := true }
def an118 : Ann := { pos := [0, 1, 2, 4, 5, 7, 8, 9, 10, 11, 12, 13, 21, 28, 41], loops := [(11, [1, 2, 8, 9, 10, 11, 12]), (8, [1, 2, 8, 9, 10, 11])], flags := [((5, 0), 2)], pre := [(16, [9])], frz := true }
def an119 : Ann := { pos := [0, 1, 2, 3, 6, 7, 8, 9, 10, 11, 12, 13, 21, 26, 43, 49, 67], loops := [(10, [2, 3, 9, 11, 12, 13]), (5, [2, 3, 9, 11])], flags := [], pre := [], frz := true }
def an120 : Ann := { pos := [0, 1, 2, 3, 4, 6, 7, 9, 10, 29, 52, 63, 64, 65, 66, 78, 91, 94, 102, 103, 104, 105, 127, 134, 142, 146], loops := [(21, [1, 3, 4, 7, 102, 103, 104]), (10, [1, 3, 4, 63, 64, 65])], flags := [((11, 2), 1), ((22, 2), 1)], pre := [], frz := true }
def an121 : Ann := { pos := [0, 2, 3, 4, 5, 6, 7, 8, 9], loops := [(3, [2, 3, 6, 7, 8])], flags := [((0, 0), 1), ((1, 0), 1)], pre := [(7, [3])], frz := true }
def an122 : Ann := { pos := [0, 1, 3, 4, 5, 7, 12, 13, 14, 15, 26], loops := [(3, [3, 5, 12, 13, 14])], flags := [((4, 2), 1)], pre := [], frz := true }
def an123 : Ann := { pos := [0, 1, 4, 5, 6, 7, 8, 16, 36, 45], loops := [(3, [0, 1, 5, 6])], flags := [], pre := [], frz := true }
def an124 : Ann := { pos := [0, 1, 2, 4], loops := [], flags := [], pre := [], frz := true }
def an125 : Ann := { pos := [0, 2], loops := [], flags := [], pre := [], frz := true }
def an126 : Ann := { pos := [0, 1], loops := [], flags := [], pre := [], frz := true }
def an127 : Ann := { pos := [0, 1, 4, 5, 6, 7, 8, 9], loops := [], flags := [], pre := [], frz := true }
def an128 : Ann := { pos := [0, 1, 4, 5, 7, 14, 15, 16, 17, 31], loops := [(3, [1, 5, 14, 15, 16])], flags := [((1, 5), 1)], pre := [(9, [5])], frz := true }
def an129 : Ann := { pos := [0, 1, 2, 4, 27, 33], loops := [(1, [0, 1, 2, 4])], flags := [], pre := [], frz := true }
def an130 : Ann := { pos := [0, 1, 2, 3], loops := [], flags := [], pre := [], frz := true }
def an131 : Ann := { pos := [0, 1, 2, 4, 5, 6, 7, 14, 20], loops := [], flags := [], pre := [], frz := true }
def an132 : Ann := { pos := [0, 1, 2, 3, 4, 5, 6, 7, 8, 9, 10, 11, 16, 26, 30, 40, 43, 85, 95, 102, 131], loops := [(25, [1, 3, 9, 10]), (22, [1, 3, 9]), (9, [1, 3, 4, 5, 6, 7]), (3, [1, 3, 4])], flags := [((1, 0), 2), ((5, 5), 1), ((15, 3), 3), ((27, 5), 1)], pre := [(30, [3])], frz := true }
def an133 : Ann := { pos := [0, 1, 2, 6], loops := [], flags := [], pre := [], frz := true }
def an134 : Ann := { pos := [0, 1, 4, 5, 10, 14, 25], loops := [(4, [0, 1, 5])], flags := [], pre := [], frz := true }
def an135 : Ann := { pos := [0, 2], loops := [], flags := [], pre := [], frz := true }
def an136 : Ann := { pos := [0, 1, 2, 3, 5, 11, 12, 13, 14, 50], loops := [(3, [1, 3, 11, 12, 13])], flags := [((1, 3), 1)], pre := [], frz := true }
def an137 : Ann := { pos := [0, 2], loops := [], flags := [], pre := [], frz := true }
def an138 : Ann := { pos := [0, 2, 3, 9], loops := [(1, [0, 2, 3])], flags := [], pre := [], frz := true }
def an139 : Ann := { pos := [0, 1, 4, 5, 6], loops := [], flags := [], pre := [], frz := true }
def an140 : Ann := { pos := [0, 1, 4, 5, 6, 7, 8, 9, 10, 11, 12, 13], loops := [], flags := [], pre := [], frz := true }
def an141 : Ann := { pos := [0, 1, 2, 3, 4, 8], loops := [], flags := [], pre := [], frz := true }
def an142 : Ann := { pos := [0, 1, 4, 5, 6, 7, 11, 14, 19, 32], loops := [(8, [0, 1, 5, 6, 7]), (4, [0, 1, 5])], flags := [], pre := [], frz := true }
def an143 : Ann := { pos := [0, 1, 2, 3, 6, 7, 8, 9, 10, 11, 15], loops := [(4, [1, 2, 3, 7, 8, 9, 10])], flags := [((1, 0), 2), ((6, 9), 1)], pre := [(10, [7])], frz := true }
def an144 : Ann := { pos := [0, 1, 2, 3, 4, 5, 6, 7, 8, 9, 10, 28, 50, 55, 64, 67, 72, 89, 96, 101, 110, 115, 142, 145, 167, 172, 174], loops := [(32, [1, 7, 8, 9]), (26, [1, 7]), (21, [1, 4, 5, 6]), (13, [1, 4]), (6, [1, 3])], flags := [((15, 5), 1), ((28, 5), 1)], pre := [], frz := true }
def an145 : Ann := { pos := [0, 1, 2, 3, 4, 5, 10, 11, 12, 26, 34, 54, 94], loops := [], flags := [((0, 1), 1), ((1, 6), 1)], pre := [(15, [11])], frz := true }
def an146 : Ann := { pos := [0, 1, 2, 3, 4, 5, 6, 11, 42, 46, 63], loops := [(9, [1, 3, 4, 5, 6]), (3, [1, 3, 4])], flags := [((1, 0), 2)], pre := [], frz := true }
def an147 : Ann := { pos := [0, 1, 2, 3, 4, 9, 16], loops := [(3, [1, 3, 4])], flags := [], pre := [], frz := true }
def an148 : Ann := { pos := [0, 1, 2, 3, 4, 5, 6, 7, 8, 9, 10, 19, 32, 41, 47], loops := [(9, [3, 7, 9, 10]), (3, [3, 4, 5, 7, 8])], flags := [((1, 3), 1)], pre := [(9, [7]), (11, [7])], frz := true }
def an149 : Ann := { pos := [0, 1, 2, 4, 5, 10, 20], loops := [(2, [1, 2, 5])], flags := [], pre := [], frz := true }
def anns : List Ann := [{ pos := [] }, { pos := [] }, an2, an3, an4, an5, an6, an7, an8, an9, an10, an11, an12, an13, an14, an15, an16, an17, an18, an19, an20, an21, an22, an23, an24, an25, an26, an27, an28, an29, an30, an31, an32, an33, an34, an35, an36, an37, an38, an39, an40, an41, an42, an43, an44, an45, an46, an47, an48, an49, an50, an51, an52, an53, an54, an55, an56, an57, an58, an59, an60, an61, an62, an63, an64, an65, an66, an67, an68, an69, an70, an71, an72, an73, an74, an75, an76, an77, an78, an79, { pos := [] }, an81, an82, an83, an84, an85, an86, an87, an88, an89, an90, an91, an92, an93, an94, an95, an96, an97, an98, an99, an100, an101, an102, an103, an104, an105, an106, an107, an108, an109, an110, an111, an112, an113, an114, an115, an116, an117, an118, an119, an120, an121, an122, an123, an124, an125, an126, an127, an128, an129, an130, an131, an132, an133, an134, an135, an136, an137, an138, an139, an140, an141, an142, an143, an144, an145, an146, an147, an148, an149]
def annOf (n : FuncId) : Ann := anns.getD n { pos := [] }
end Go.Proofs.Ytbkifahfbcalaaa
namespace Go.Am
def cBody (f : Func) : Code := f.body.getD .skip
def cL : Code → Code
  | .seq a _ | .cond _ a _ | .block _ a | .loop a | .scope a | .rangeFunc _ _ a _ => a
  | c => c
def cR : Code → Code
  | .seq _ b | .cond _ _ b | .rangeFunc _ _ _ b => b
  | c => c
def opsOf : Code → Array Oper
  | .region _ o _ => o
  | _ => #[]
def isRegion : Code → Bool
  | .region _ _ _ => true
  | _ => false
/-- a call of a function value -/
def callVal {R : Type} (cx : Cx) (fl : Nat) (f : AV) (args : List AV) (H : Heap) (nid : Nat) (K : AV → Heap → List Nat → List Nat → Option R) : Option R :=
  match f with
  | .yld => (pYield cx.yield args H).bind fun r => K r.1 r.2 [outerId] [outerId]
  | vf => (fnOf vf).bind fun q => (pCall cx.call fl q.1 (q.2.1 ++ args ++ q.2.2) H nid).bind fun r => K r.1 r.2.1 r.2.2.1 r.2.2.2
/-- an operation of a drawn region beside those done before it -/
def okp {R : Type} (b i : Nat) (q : Q4) (d : List (Nat × List Nat × List Nat)) (K : List (Nat × List Nat × List Nat) → Option R) : Option R := if okPair b q.2.2.1 q.2.2.2 d then K ((i, q.2.2.1, q.2.2.2) :: d) else none
/-- a call's run -/
def callYM (P : Program) (A : FuncId → Ann) (h : CallFn) (k : Nat) : YFn → FuncId → List AV → List OSt → Option (AV × List OSt) :=
  fun Y f args outer => (acallG P A h k (some Y) f args [] outer).bind fun r => if r.2.1.isEmpty then some (r.1, r.2.2) else none
def cxOf (P : Program) (A : FuncId → Ann) (h : CallFn) (k nL : Nat) (y : Option YFn) (a : Ann) : Cx := ⟨P, acall P A h k, callYM P A h k, y, true, nL, a, k⟩
/-- a call's end -/
def finish (P : Program) (a : Ann) (res : List ResultVar) (nL : Nat) : ARes → Option (AV × List ABlk)
  | some (.exit _, _, _) | none => none
  | some (_, fr, H) => (mapO (aresult P a.pos fr H) res).bind fun vs => (aret a.frz nL (oneOf vs) H).bind fun r => if H.outer.isEmpty then some r else none
theorem acall_eq {P : Program} {A : FuncId → Ann} {h : CallFn} {k : Nat} {f : FuncId} {fn : Func} {c : Code} {args : List AV} {L : List ABlk} (hf : P.funcs[f]? = some fn) (hb : fn.body = some c) (hl : args.length ≤ fn.ntmps) (hh : h f args L = none) :
    acall P A h (k + 1) f args L = finish P (A f) fn.results.toList L.length (arun (cxOf P A h k L.length none (A f)) c ((A f).pos.map fun t => args.getD t .undef) { heapOf L with outer := [] }) := by
  unfold acall
  rw [hh]
  show (Option.bind _ _) = _
  simp only [acallG, hf, Option.bind_some]
  have : ¬ ((!decide (args.length ≤ fn.ntmps)) = true) := by simp [hl]
  unfold abody
  rw [hb]
  simp only
  rw [if_neg this, fzP_eq]
  have hr : ∀ X, arun (cxOf P A h k L.length none (A f)) c ((A f).pos.map fun t => args.getD t .undef) { heapOf L with outer := [] } = X → arun ⟨P, fun f args L => (h f args L).orElse fun _ => (acallG P A h k none f args L []).bind fun r => if r.2.2.isEmpty then some (r.1, r.2.1) else none,
      fun Y f args outer => (acallG P A h k (some Y) f args [] outer).bind fun r => if r.2.1.isEmpty then some (r.1, r.2.2) else none, none, true, L.length, A f, k⟩ c ((A f).pos.map fun t => args.getD t .undef) { heapOf L with outer := [] } = X := fun X h => h
  generalize hX : arun (cxOf P A h k L.length none (A f)) c ((A f).pos.map fun t => args.getD t .undef) { heapOf L with outer := [] } = X
  rw [hr X hX]
  unfold finish
  split
  · rfl
  · rfl
  · rename_i e fr H hne
    have key : (((mapO (aresult P (A f).pos fr H) fn.results.toList).bind fun vs => (aret (A f).frz L.length (oneOf vs) H).map fun r => (r.1, r.2, H.outer)).bind fun r => if r.2.2.isEmpty = true then some (r.1, r.2.1) else none) =
        (mapO (aresult P (A f).pos fr H) fn.results.toList).bind fun vs => (aret (A f).frz L.length (oneOf vs) H).bind fun r => if H.outer.isEmpty then some r else none := by
      rw [Option.bind_assoc]
      refine congrArg (Option.bind _) (funext fun vs => ?_)
      cases aret (A f).frz L.length (oneOf vs) H with
      | none => rfl
      | some r => rfl
    cases e with
    | exit i => exact (hne i rfl).elim
    | normal => exact key
    | ret => exact key
theorem acall_hook {P : Program} {A : FuncId → Ann} {h : CallFn} {k : Nat} {f : FuncId} {args : List AV} {L : List ABlk} {r : AV × List ABlk} (hh : h f args L = some r) : acall P A h k f args L = some r := by
  unfold acall; rw [hh]; rfl

/-! ### the machine without values worked out -/
section plain
variable {R : Type}
def aopsU (cx : Cx) (fr : List AV) (rid : Nat) (all : List Oper) (K : List (Nat × AV) → Heap → Option R) : List Oper → Nat → List (Nat × AV) → Heap → Option R
  | [], _, loc, H => K loc H
  | o :: rest, i, loc, H =>
    match o.guard with
    | none => astep cx (flagOf cx.ann rid i) o (evalA cx.ann.pos fr loc) H.next H fun v H' _ _ => aopsU cx fr rid all K rest (i + 1) (bnd o v loc) H'
    | some (j, want) =>
      (gd (evalA cx.ann.pos fr loc (guardSlot all j)) want
        (astep cx (flagOf cx.ann rid i) o (evalA cx.ann.pos fr loc) H.next H fun v H' rd wr => some ((v, H', rd, wr) : Q4)) (.tup [], H, [], [])).bind fun q =>
          aopsU cx fr rid all K rest (i + 1) (bnd o q.1 loc) q.2.1
theorem aopsU_eq {cx : Cx} {fr : List AV} {rid : Nat} {all : List Oper} {K K' : List (Nat × AV) → Heap → Option R} (hK : ∀ l H, K l H = K' l H) : ∀ (l : List Oper) (i : Nat) (loc : List (Nat × AV)) (H : Heap), aops cx fr rid all K l i loc H = aopsU cx fr rid all K' l i loc H
  | [], _, loc, H => hK loc H
  | o :: rest, i, loc, H => by
    have ih := aopsU_eq (cx := cx) (fr := fr) (rid := rid) (all := all) hK rest
    simp only [aops, aopsU, fzQ_eq, ih]
    cases o.guard <;> rfl
def aopsDU (cx : Cx) (fr : List AV) (rid : Nat) (all : List Oper) (bef : List Nat) (base : Nat) (K : List (Nat × AV) → Heap → Option R) : List Oper → Nat → List (Nat × AV) → Heap → List (Nat × List Nat × List Nat) → Option R
  | [], i, loc, H, _ => K loc (H.atLeast (base + 8 * i))
  | o :: rest, i, loc, H, done =>
    (aopD cx fr rid all (base + 8 * i) i o loc H).bind fun q =>
      if okPair (bef.getD i 0) q.2.2.1 q.2.2.2 done then aopsDU cx fr rid all bef base K rest (i + 1) (bnd o q.1 loc) q.2.1 ((i, q.2.2.1, q.2.2.2) :: done) else none
theorem aopsDU_eq {cx : Cx} {fr : List AV} {rid : Nat} {all : List Oper} {bef : List Nat} {base : Nat} {K K' : List (Nat × AV) → Heap → Option R} (hK : ∀ l H, K l H = K' l H) : ∀ (l : List Oper) (i : Nat) (loc : List (Nat × AV)) (H : Heap) (done : List (Nat × List Nat × List Nat)), aopsD cx fr rid all bef base K l i loc H done = aopsDU cx fr rid all bef base K' l i loc H done
  | [], _, loc, H, _ => hK loc _
  | o :: rest, i, loc, H, done => by
    have ih := aopsDU_eq (cx := cx) (fr := fr) (rid := rid) (all := all) (bef := bef) (base := base) hK rest
    simp only [aopsD, aopsDU, fzQ_eq, ih]
end plain
def aregion0U (cx : Cx) (rid : Nat) (ops : Array Oper) (draw : Bool) (fr : List AV) (H : Heap) : ARes :=
  if draw then
    aopsDU { cx with yield := none } fr rid ops.toList (befs ops) H.next (fun loc H' => some (.normal, expo cx.ann.pos fr loc, H')) ops.toList 0 [] H []
  else aopsU cx fr rid ops.toList (fun loc H' => some (.normal, expo cx.ann.pos fr loc, H')) ops.toList 0 [] H
theorem aregion0U_eq (cx : Cx) (rid : Nat) (ops : Array Oper) (draw : Bool) (fr : List AV) (H : Heap) : aregion0 cx rid ops draw fr H = aregion0U cx rid ops draw fr H := by
  unfold aregion0 aregion0U
  rw [aopsDU_eq (K' := fun loc H' => some (.normal, expo cx.ann.pos fr loc, H')) (fun l H => by simp only [fzL_eq]), aopsU_eq (K' := fun loc H' => some (.normal, expo cx.ann.pos fr loc, H')) (fun l H => by simp only [fzL_eq])]
def aregionU (cx : Cx) (rid : Nat) (ops : Array Oper) (draw : Bool) (fr : List AV) (H : Heap) : ARes :=
  match cx.ann.pre.lookup rid with
  | some l => aregion0U cx rid ops draw (frzSlots cx.nL cx.ann.pos l fr H).1 (frzSlots cx.nL cx.ann.pos l fr H).2
  | none => aregion0U cx rid ops draw fr H
theorem aregionU_eq (cx : Cx) (rid : Nat) (ops : Array Oper) (draw : Bool) (fr : List AV) (H : Heap) : aregion cx rid ops draw fr H = aregionU cx rid ops draw fr H := by
  unfold aregion aregionU
  cases cx.ann.pre.lookup rid <;> simp only [aregion0U_eq]
def regionU (cx : Cx) (c : Code) (fr : List AV) (H : Heap) : ARes := match c with | .region id ops d => aregionU cx id ops d fr H | _ => none
theorem arun_region {cx : Cx} {c : Code} {fr : List AV} {H : Heap} {r : ARes} (hc : isRegion c = true) (h : regionU cx c fr H = r) : arun cx c fr H = r := by
  cases c <;> simp only [isRegion, Bool.false_eq_true] at hc
  simp only [arun, aregionU_eq]; exact h
/-- a loop -/
def loopU (body : List AV → Heap → ARes) (gc : Bool) (nL : Nat) (keep : List Bool) : Nat → List AV → Heap → ARes
  | 0, _, _ => none
  | k + 1, fr, H =>
    match body (canon gc nL keep fr H).1 (canon gc nL keep fr H).2 with
    | some (.normal, fr', H') => loopU body gc nL keep k fr' H'
    | r => r
theorem loopU_eq (body : List AV → Heap → ARes) (gc : Bool) (nL : Nat) (keep : List Bool) : ∀ (k : Nat) (fr : List AV) (H : Heap), loopX body gc nL keep k fr H = loopU body gc nL keep k fr H
  | 0, _, _ => rfl
  | k + 1, fr, H => by
    have ih := loopU_eq body gc nL keep k
    simp only [loopX, loopU, fzP_eq]
    cases body (canon gc nL keep fr H).1 (canon gc nL keep fr H).2 with
    | none => rfl
    | some q =>
      obtain ⟨e, f, h⟩ := q
      cases e with
      | normal => exact ih f h
      | exit i => rfl
      | ret => rfl

/-! ### parts at values of known shapes -/
theorem nr {S : Sort _} {a b : S} (h : a = b) : a = b := h
section parts
variable {P : Program} {t : TypeId} {k : IntKind} {a b : Int} {H : Heap}
@[simp] theorem bin_add : pBin P .add t (.int k a) (.int k b) H = some (.int k (k.wrap (a + b))) := by simp [pBin, intBin]
@[simp] theorem bin_sub : pBin P .sub t (.int k a) (.int k b) H = some (.int k (k.wrap (a - b))) := by simp [pBin, intBin]
@[simp] theorem bin_mul : pBin P .mul t (.int k a) (.int k b) H = some (.int k (k.wrap (a * b))) := by simp [pBin, intBin]
@[simp] theorem bin_quo : pBin P .quo t (.int k a) (.int k b) H = if b = 0 then none else some (.int k (k.wrap (a.tdiv b))) := by simp [pBin, intBin]
@[simp] theorem bin_rem : pBin P .rem t (.int k a) (.int k b) H = if b = 0 then none else some (.int k (a.tmod b)) := by simp [pBin, intBin]
@[simp] theorem bin_lss : pBin P .lss t (.int k a) (.int k b) H = some (.bool (decide (a < b))) := by simp [pBin, intBin]
@[simp] theorem bin_leq : pBin P .leq t (.int k a) (.int k b) H = some (.bool (decide (a ≤ b))) := by simp [pBin, intBin]
@[simp] theorem bin_gtr : pBin P .gtr t (.int k a) (.int k b) H = some (.bool (decide (b < a))) := by simp [pBin, intBin]
@[simp] theorem bin_geq : pBin P .geq t (.int k a) (.int k b) H = some (.bool (decide (b ≤ a))) := by simp [pBin, intBin]
@[simp] theorem bin_eql : pBin P .eql t (.int k a) (.int k b) H = some (.bool (decide (a = b))) := by simp [pBin, intBin, BEq.beq]
@[simp] theorem bin_neq : pBin P .neq t (.int k a) (.int k b) H = some (.bool (decide (a ≠ b))) := by simp [pBin, intBin, bne, BEq.beq]
@[simp] theorem un_not {x : Bool} : pUn .not (.bool x) = some (.bool !x) := nr rfl
@[simp] theorem un_neg : pUn .neg (.int k a) = some (.int k (k.wrap (0 - a))) := nr rfl
@[simp] theorem pick_bool {x : Bool} {u v : AV} : pPick (.bool x) u v = some (if x then u else v) := nr rfl
@[simp] theorem gd_bool {S : Type} {x w : Bool} {y : Option S} {d : S} : gd (.bool x) w y d = if x = w then y else some d := nr rfl
@[simp] theorem gd_tup {S : Type} {w : Bool} {y : Option S} {d : S} : gd (.tup []) w y d = some d := nr rfl
@[simp] theorem condX_bool {x : Bool} {f g : List AV → Heap → ARes} {fr : List AV} : condX (.bool x) f g fr H = if x then f fr H else g fr H := nr rfl
@[simp] theorem min2_int : min2 (.int k a) (.int k b) = some (.int k (if b < a then b else a)) := nr rfl
@[simp] theorem max2_int : max2 (.int k a) (.int k b) = some (.int k (if b > a then b else a)) := nr rfl
@[simp] theorem extract_0 {u : AV} {r : List AV} : pExtract (.tup (u :: r)) 0 = some u := nr rfl
@[simp] theorem extract_1 {u v : AV} {r : List AV} : pExtract (.tup (u :: v :: r)) 1 = some v := nr rfl
@[simp] theorem extract_2 {u v w : AV} {r : List AV} : pExtract (.tup (u :: v :: w :: r)) 2 = some w := nr rfl
theorem seqX_normal {f g : List AV → Heap → ARes} {fr fr1 : List AV} {H1 : Heap} (h : f fr H = some (.normal, fr1, H1)) : seqX f g fr H = g fr1 H1 := by unfold seqX; rw [h]
theorem seqX_ret {f g : List AV → Heap → ARes} {fr fr1 : List AV} {H1 : Heap} (h : f fr H = some (.ret, fr1, H1)) : seqX f g fr H = some (.ret, fr1, H1) := by unfold seqX; rw [h]
@[simp] theorem rdOf_int : rdOf (.int k a) = [] := nr rfl
@[simp] theorem rdOf_bool {x : Bool} : rdOf (.bool x) = [] := nr rfl
@[simp] theorem rdOf_vs {es : List AV} : rdOf (.vs es) = [] := nr rfl
@[simp] theorem rdOf_nils : rdOf .nils = [] := nr rfl
@[simp] theorem rdOf_ip {es : List AV} {o : Nat} : rdOf (.ip es o) = [] := nr rfl
@[simp] theorem rdOf_agg {es : List AV} : rdOf (.agg es) = [] := nr rfl
@[simp] theorem rdOf_tup {es : List AV} : rdOf (.tup es) = [] := nr rfl
@[simp] theorem rdOf_hs {b g : Nat} : rdOf (.hs b g) = [b] := nr rfl
@[simp] theorem rdOf_he {b g i o : Nat} : rdOf (.he b g i o) = [b] := nr rfl
@[simp] theorem rdOf_hp {b o : Nat} : rdOf (.hp b o) = [b] := nr rfl
@[simp] theorem okPair_nil {b : Nat} {d : List (Nat × List Nat × List Nat)} : okPair b [] [] d = true := by
  simp [okPair, disj]
@[simp] theorem okp_nil {R : Type} {b i : Nat} {v : AV} {d : List (Nat × List Nat × List Nat)} {K : List (Nat × List Nat × List Nat) → Option R} : okp b i (v, H, [], []) d K = K ((i, [], []) :: d) := by
  simp [okp]
theorem okp_ok {R : Type} {b i : Nat} {v : AV} {rd wr : List Nat} {d : List (Nat × List Nat × List Nat)} {K : List (Nat × List Nat × List Nat) → Option R} (h : okPair b rd wr d = true) : okp b i (v, H, rd, wr) d K = K ((i, rd, wr) :: d) := by
  simp [okp, h]
/-- a call whose arguments hold no live memory -/
theorem pCall_free {call : CallFn} {fl : Nat} {f : FuncId} {args : List AV} {nid : Nat} (hr : args.any isRow = false) (hf : AV.refFreeL args = true) : pCall call fl f args H nid = (call f args []).bind fun r =>
    if r.2.isEmpty then (if r.1.refFree then some (r.1, H, [], []) else none) else if r.2.length ≤ 8 then some (r.1.ren (backMap H [] nid), putAll H [] nid r.2 0 H, [], List.range' nid r.2.length) else none := by
  have hb : args.map (borrow1 H) = args := borrow_none hr
  unfold pCall
  simp only [hb, ite_self, hf, if_true, hr, Bool.and_false, Bool.false_eq_true, if_false]
theorem pCall_con {call : CallFn} {fl : Nat} {f : FuncId} {args : List AV} {nid : Nat} {v : AV} (hc : call f args [] = some (v, [])) (hv : v.refFree = true) (hr : args.any isRow = false) (hf : AV.refFreeL args = true) :
    pCall call fl f args H nid = some (v, H, [], []) := by
  rw [pCall_free hr hf, hc]
  simp [hv]
@[simp] theorem free_int : AV.refFree (.int k a) = true := nr rfl
@[simp] theorem free_bool {x : Bool} : AV.refFree (.bool x) = true := nr rfl
@[simp] theorem free_vs {es : List AV} : AV.refFree (.vs es) = true := nr rfl
@[simp] theorem free_nils : AV.refFree .nils = true := nr rfl
@[simp] theorem free_nilp : AV.refFree .nilp = true := nr rfl
@[simp] theorem free_nilf : AV.refFree .nilf = true := nr rfl
@[simp] theorem free_en : AV.refFree .en = true := nr rfl
@[simp] theorem isRow_en : isRow .en = false := nr rfl
@[simp] theorem isRow_es0 : isRow .es0 = false := nr rfl
@[simp] theorem rdOf_en : rdOf .en = [] := nr rfl
@[simp] theorem rdOf_es0 : rdOf .es0 = [] := nr rfl
@[simp] theorem free_es0 : AV.refFree .es0 = true := nr rfl
@[simp] theorem free_ip {es : List AV} {o : Nat} : AV.refFree (.ip es o) = true := nr rfl
@[simp] theorem free_fm {es fs : List AV} : AV.refFree (.fm es fs) = true := nr rfl
@[simp] theorem free_agg {es : List AV} : AV.refFree (.agg es) = AV.refFreeL es := nr rfl
@[simp] theorem free_tup {es : List AV} : AV.refFree (.tup es) = AV.refFreeL es := nr rfl
@[simp] theorem free_fn {f : FuncId} {es fs : List AV} : AV.refFree (.fn f es fs) = (AV.refFreeL es && AV.refFreeL fs) := nr rfl
@[simp] theorem freeL_nil : AV.refFreeL [] = true := nr rfl
@[simp] theorem freeL_cons {x : AV} {r : List AV} : AV.refFreeL (x :: r) = (x.refFree && AV.refFreeL r) := nr rfl
@[simp] theorem freeL_append {x y : List AV} : AV.refFreeL (x ++ y) = (AV.refFreeL x && AV.refFreeL y) := by simp only [AV.refFreeL_all, List.all_append]
@[simp] theorem isRow_int : isRow (.int k a) = false := nr rfl
@[simp] theorem isRow_bool {x : Bool} : isRow (.bool x) = false := nr rfl
@[simp] theorem isRow_vs {es : List AV} : isRow (.vs es) = false := nr rfl
@[simp] theorem isRow_nils : isRow .nils = false := nr rfl
@[simp] theorem isRow_agg {es : List AV} : isRow (.agg es) = false := nr rfl
@[simp] theorem isRow_ip {es : List AV} {o : Nat} : isRow (.ip es o) = false := nr rfl
@[simp] theorem isRow_fn {f : FuncId} {es fs : List AV} : isRow (.fn f es fs) = false := nr rfl
theorem aret_free {frz : Bool} {v : AV} (hv : v.refFree = true) : aret frz 0 v H = some (v, []) := by
  cases frz <;> simp [aret, pFrz, hv]
end parts
/-! ### rows, cells -/
section rows
variable {P : Program} {t xt te e : TypeId} {H : Heap} {sz by_ : Nat}
theorem len_row {x : AV} {es : List AV} (hu : P.underlying t = some (.slice e)) (h : rowOf x H = some es) : pLen P t x H = some (.int .i64 es.length) := by
  simp [pLen, hu, h]
theorem idx_vs {es : List AV} {i : Nat} {y : AV} (hu : P.underlying t = some (.slice e)) (hs : size? P e = some sz) (hz : sz ≠ 0) (h : es[i]? = some y) (hy : y.cells.length = sz) : pIndexAddr P t (.vs es) (.int .i64 i) H = some (.ip y.cells 0) := by
  obtain ⟨hl, rfl⟩ := List.getElem?_eq_some_iff.1 h
  simp [pIndexAddr, asN, hu, hs, hz, hy, hl]
theorem idx_hs {es : List AV} {b g i : Nat} {p : Bool} (hu : P.underlying t = some (.slice e)) (hs : size? P e = some sz) (hz : sz ≠ 0) (hb : H.get b = some (.sl g sz p es)) (h : i < es.length) : pIndexAddr P t (.hs b g) (.int .i64 i) H = some (.he b g i 0) := by
  simp [pIndexAddr, asN, hu, hs, hz, hb, h]
theorem ld_hp {cs : List AV} {b o : Nat} (hb : H.get b = some (.cells cs)) : pLoad P t (.hp b o) H = pLoad P t (.ip cs o) H := by
  simp [pLoad, cellsAt, hb]
theorem ld_he {es : List AV} {y : AV} {b g i o : Nat} {p : Bool} (hb : H.get b = some (.sl g sz p es)) (hy : es[i]? = some y) : pLoad P t (.he b g i o) H = pLoad P t (.ip y.cells o) H := by
  simp [pLoad, cellsAt, hb, hy]
@[simp] theorem addOff_ip {cs : List AV} {o n : Nat} : addOff (.ip cs o) n H = some (.ip cs (o + n)) := nr rfl
theorem addOff_hp {cs : List AV} {b o n : Nat} (hb : H.get b = some (.cells cs)) : addOff (.hp b o) n H = some (.hp b (o + n)) := by
  simp [addOff, liveP, hb]
theorem addOff_he {es : List AV} {b g i o n : Nat} {p : Bool} (hb : H.get b = some (.sl g sz p es)) (hi : i < es.length) : addOff (.he b g i o) n H = some (.he b g i (o + n)) := by
  simp [addOff, liveP, hb, hi]
theorem st_hp {cs : List AV} {v : AV} {b o n : Nat} (hs : size? P t = some n) (hl : v.cells.length = n) (h1 : v.cells.all AV.one = true) (hb : H.get b = some (.cells cs)) (ho : o + n ≤ cs.length) : pStore P t (.hp b o) v H = some (H.put b (.cells (splice cs o v.cells))) := by
  unfold pStore
  rw [hs]
  simp only [Option.bind_some, hl, h1, decide_true, Bool.and_self, if_true, hb, ho]
theorem st_he {es : List AV} {v y : AV} {b g i o n : Nat} {p : Bool} (hs : size? P t = some n) (hl : v.cells.length = n) (h1 : v.cells.all AV.one = true) (hb : H.get b = some (.sl g sz p es)) (hy : es[i]? = some y) (ho : o + n ≤ y.cells.length) :
    pStore P t (.he b g i o) v H = some (H.put b (.sl g sz (p && v.refFree) (es.set i (reCells y (splice y.cells o v.cells))))) := by
  unfold pStore
  rw [hs]
  simp only [Option.bind_some, hl, h1, decide_true, Bool.and_self, if_true, hb, hy, ho]
/-- a row's elements may be appended -/
structure ApOk (P : Program) (t xt e : TypeId) (sz by_ : Nat) : Prop where
  u : P.underlying t = some (.slice e)
  x : ∃ e', P.underlying xt = some (.slice e')
  s : size? P e = some sz
  b : ∃ inf, P.info? e = some inf ∧ inf.bytes = by_
  z : ∃ z, zero? P e = some z ∧ z.cells.length = sz
  n : sz ≠ 0 ∧ by_ ≠ 0
theorem ap_hs (h : ApOk P t xt e sz by_) {b g nid : Nat} {p : Bool} {es src : List AV} {x : AV} (hx : rowOf x H = some src) (hok : okSrc sz src = true) (hb : H.get b = some (.sl g sz p es)) (hne : src ≠ []) (hm : (es.length + src.length) * by_ ≤ 35184372088832) :
    pAppend P t xt (.hs b g) x nid H = some (.hs b (g + 1), H.put b (.sl (g + 1) sz (p && AV.refFreeL src) (es ++ src))) := by
  obtain ⟨e', hx'⟩ := h.x
  obtain ⟨inf, hi, hby⟩ := h.b
  obtain ⟨z, hz, hzl⟩ := h.z
  have hm' : (es.length + src.length) * inf.bytes ≤ maxBytes := by rw [hby]; exact hm
  have hse : src.isEmpty = false := by cases src <;> simp_all
  have hn2 := h.n.2
  rw [← hby] at hn2
  simp [pAppend, h.u, hx', h.s, hi, hz, hzl, h.n.1, hn2, hx, hok, hb, hne, hm']
theorem ap_nil (h : ApOk P t xt e sz by_) {nid : Nat} {src : List AV} {s x : AV} (hs : s = .nils ∨ s = .es0) (hx : rowOf x H = some src) (hok : okSrc sz src = true) (hne : src ≠ []) (hm : src.length * by_ ≤ 35184372088832) :
    pAppend P t xt s x nid H = some (.hs nid 0, H.put nid (.sl 0 sz (AV.refFreeL src) src)) := by
  obtain ⟨e', hx'⟩ := h.x
  obtain ⟨inf, hi, hby⟩ := h.b
  obtain ⟨z, hz, hzl⟩ := h.z
  have hm' : src.length * inf.bytes ≤ maxBytes := by rw [hby]; exact hm
  have hse : src.isEmpty = false := by cases src <;> simp_all
  have hn2 := h.n.2
  rw [← hby] at hn2
  rcases hs with rfl | rfl <;> simp [pAppend, h.u, hx', h.s, hi, hz, hzl, h.n.1, hn2, hx, hok, hne, hm']
theorem ap_hs0 (h : ApOk P t xt e sz by_) {b g nid : Nat} {p : Bool} {es : List AV} {x : AV} (hx : rowOf x H = some []) (hb : H.get b = some (.sl g sz p es)) : pAppend P t xt (.hs b g) x nid H = some (.hs b g, H) := by
  obtain ⟨e', hx'⟩ := h.x
  obtain ⟨inf, hi, hby⟩ := h.b
  obtain ⟨z, hz, hzl⟩ := h.z
  have hn2 := h.n.2
  rw [← hby] at hn2
  simp [pAppend, h.u, hx', h.s, hi, hz, hzl, h.n.1, hn2, hx, hb, okSrc]
theorem ap_nil0 (h : ApOk P t xt e sz by_) {nid : Nat} {s x : AV} (hs : s = .nils ∨ s = .es0) (hx : rowOf x H = some []) : pAppend P t xt s x nid H = some (s, H) := by
  obtain ⟨e', hx'⟩ := h.x
  obtain ⟨inf, hi, hby⟩ := h.b
  obtain ⟨z, hz, hzl⟩ := h.z
  have hn2 := h.n.2
  rw [← hby] at hn2
  rcases hs with rfl | rfl <;> simp [pAppend, h.u, hx', h.s, hi, hz, hzl, h.n.1, hn2, hx, okSrc]
@[simp] theorem rowOf_vs {es : List AV} : rowOf (.vs es) H = some es := nr rfl
@[simp] theorem rowOf_nils : rowOf .nils H = some [] := nr rfl
@[simp] theorem rowOf_en : rowOf .en H = some [] := nr rfl
@[simp] theorem rowOf_es0 : rowOf .es0 H = some [] := nr rfl
theorem rowOf_hs {b g : Nat} {p : Bool} {es : List AV} (hb : H.get b = some (.sl g sz p es)) : rowOf (.hs b g) H = some es := by simp [rowOf, hb]
/-- a row of integers -/
def ints (l : List Int) : List AV := l.map (AV.int .i64)
def bools (l : List Bool) : List AV := l.map AV.bool
@[simp] theorem ints_length {l : List Int} : (ints l).length = l.length := by simp [ints]
@[simp] theorem bools_length {l : List Bool} : (bools l).length = l.length := by simp [bools]
theorem ints_get {l : List Int} {i : Nat} : (ints l)[i]? = (l[i]?).map (AV.int .i64) := by simp [ints]
theorem bools_get {l : List Bool} {i : Nat} : (bools l)[i]? = (l[i]?).map AV.bool := by simp [bools]
@[simp] theorem ints_free {l : List Int} : AV.refFreeL (ints l) = true := by rw [AV.refFreeL_iff]; intro x hx; simp only [ints, List.mem_map] at hx; obtain ⟨n, _, rfl⟩ := hx; rfl
@[simp] theorem bools_free {l : List Bool} : AV.refFreeL (bools l) = true := by rw [AV.refFreeL_iff]; intro x hx; simp only [bools, List.mem_map] at hx; obtain ⟨n, _, rfl⟩ := hx; rfl
@[simp] theorem ints_ok {l : List Int} : okSrc 1 (ints l) = true := by simp [okSrc, ints, AV.cells]
@[simp] theorem bools_ok {l : List Bool} : okSrc 1 (bools l) = true := by simp [okSrc, bools, AV.cells]
theorem ints_append {l r : List Int} : ints (l ++ r) = ints l ++ ints r := by simp [ints]
theorem bools_append {l r : List Bool} : bools (l ++ r) = bools l ++ bools r := by simp [bools]
@[simp] theorem cells_int {k : IntKind} {n : Int} : AV.cells (.int k n) = [.int k n] := nr rfl
@[simp] theorem cells_bool {n : Bool} : AV.cells (.bool n) = [.bool n] := nr rfl
@[simp] theorem cells_vs {es : List AV} : AV.cells (.vs es) = [.vs es] := nr rfl
@[simp] theorem cells_nils : AV.cells .nils = [.nils] := nr rfl
@[simp] theorem cells_agg {es : List AV} : AV.cells (.agg es) = es := nr rfl
@[simp] theorem cells_hs {b g : Nat} : AV.cells (.hs b g) = [.hs b g] := nr rfl
@[simp] theorem one_int {k : IntKind} {n : Int} : AV.one (.int k n) = true := nr rfl
@[simp] theorem one_bool {n : Bool} : AV.one (.bool n) = true := nr rfl
@[simp] theorem one_vs {es : List AV} : AV.one (.vs es) = true := nr rfl
@[simp] theorem one_nils : AV.one .nils = true := nr rfl
@[simp] theorem one_hs {b g : Nat} : AV.one (.hs b g) = true := nr rfl
/-- a row that is only read -/
def IsRow (x : AV) (es : List AV) : Prop := x = .vs es ∨ (es = [] ∧ (x = .nils ∨ x = .en ∨ x = .es0))
theorem IsRow.of {x : AV} {es : List AV} (h : IsRow x es) : rowOf x H = some es := by
  rcases h with rfl | ⟨rfl, rfl | rfl | rfl⟩ <;> simp
theorem IsRow.free {x : AV} {es : List AV} (h : IsRow x es) : x.refFree = true := by
  rcases h with rfl | ⟨rfl, rfl | rfl | rfl⟩ <;> simp
theorem IsRow.notRow {x : AV} {es : List AV} (h : IsRow x es) : isRow x = false := by
  rcases h with rfl | ⟨rfl, rfl | rfl | rfl⟩ <;> simp
theorem IsRow.rd {x : AV} {es : List AV} (h : IsRow x es) : rdOf x = [] := by
  rcases h with rfl | ⟨rfl, rfl | rfl | rfl⟩ <;> simp
theorem IsRow.vs {x : AV} {es : List AV} (h : IsRow x es) (hne : es ≠ []) : x = .vs es := by
  rcases h with h | ⟨h, _⟩
  · exact h
  · exact absurd h hne
end rows
end Go.Am
namespace Go.Proofs.Ytbkifahfbcalaaa
open Go.Am
/-- nothing but the function 10 is known by another road -/
def Hk (h : CallFn) : Prop := ∀ f args L, f ≠ 10 → h f args L = none
/-- what a call hands back, with enough fuel -/
def Con (h : CallFn) (f : FuncId) (args : List AV) (v : AV) : Prop := ∃ K, ∀ k, K ≤ k → acall Try.prog annOf h k f args [] = some (v, [])
theorem Con.of {h : CallFn} {f : FuncId} {args : List AV} {v : AV} (K : Nat) (H : ∀ k, K ≤ k → acall Try.prog annOf h (k + 1) f args [] = some (v, [])) : Con h f args v :=
  ⟨K + 1, fun k hk => by obtain ⟨j, rfl⟩ : ∃ j, k = j + 1 := ⟨k - 1, by omega⟩; exact H j (by omega)⟩
theorem wrap_i64 {n : Int} (h1 : -9223372036854775808 ≤ n) (h2 : n < 9223372036854775808) : IntKind.i64.wrap n = n := IntWalk.i64_in n ⟨h1, by omega⟩
noncomputable abbrev cxM (call : CallFn) (callY : YFn → FuncId → List AV → List OSt → Option (AV × List OSt)) (yl : Option YFn) (gc : Bool) (nL : Nat) (a : Ann) (k : Nat) : Cx := ⟨Try.prog, call, callY, yl, gc, nL, a, k⟩
end Go.Proofs.Ytbkifahfbcalaaa
namespace Go.Proofs.Ytbkifahfbcalaaa
open Go.Am
theorem und22 : Try.prog.underlying 22 = some (.slice 3) := by kernel_rfl
theorem sz22 : size? Try.prog 3 = some 1 := by kernel_rfl
theorem ag22 : aggT Try.prog 3 = false := by kernel_rfl
@[simp] theorem len22_vs {es : List AV} {H : Heap} : pLen Try.prog 22 (.vs es) H = some (.int .i64 es.length) := by kernel_rfl
@[simp] theorem len22_nils {H : Heap} : pLen Try.prog 22 .nils H = some (.int .i64 0) := by kernel_rfl
@[simp] theorem len22_en {H : Heap} : pLen Try.prog 22 .en H = some (.int .i64 0) := by kernel_rfl
@[simp] theorem len22_es0 {H : Heap} : pLen Try.prog 22 .es0 H = some (.int .i64 0) := by kernel_rfl
theorem len22_row {x : AV} {es : List AV} {H : Heap} (h : rowOf x H = some es) : pLen Try.prog 22 x H = some (.int .i64 es.length) := len_row und22 h
theorem idx22_vs {es : List AV} {H : Heap} {i : Nat} {y : AV} (h : es[i]? = some y) (hy : y.cells.length = 1) : pIndexAddr Try.prog 22 (.vs es) (.int .i64 i) H = some (.ip y.cells 0) := idx_vs und22 sz22 (by decide) h hy
theorem idx22_hs {es : List AV} {H : Heap} {b g i : Nat} {p : Bool} (hb : H.get b = some (.sl g 1 p es)) (h : i < es.length) : pIndexAddr Try.prog 22 (.hs b g) (.int .i64 i) H = some (.he b g i 0) := idx_hs und22 sz22 (by decide) hb h
theorem und25 : Try.prog.underlying 25 = some (.slice 5) := by kernel_rfl
theorem sz25 : size? Try.prog 5 = some 1 := by kernel_rfl
theorem ag25 : aggT Try.prog 5 = false := by kernel_rfl
@[simp] theorem len25_vs {es : List AV} {H : Heap} : pLen Try.prog 25 (.vs es) H = some (.int .i64 es.length) := by kernel_rfl
@[simp] theorem len25_nils {H : Heap} : pLen Try.prog 25 .nils H = some (.int .i64 0) := by kernel_rfl
@[simp] theorem len25_en {H : Heap} : pLen Try.prog 25 .en H = some (.int .i64 0) := by kernel_rfl
@[simp] theorem len25_es0 {H : Heap} : pLen Try.prog 25 .es0 H = some (.int .i64 0) := by kernel_rfl
theorem len25_row {x : AV} {es : List AV} {H : Heap} (h : rowOf x H = some es) : pLen Try.prog 25 x H = some (.int .i64 es.length) := len_row und25 h
theorem idx25_vs {es : List AV} {H : Heap} {i : Nat} {y : AV} (h : es[i]? = some y) (hy : y.cells.length = 1) : pIndexAddr Try.prog 25 (.vs es) (.int .i64 i) H = some (.ip y.cells 0) := idx_vs und25 sz25 (by decide) h hy
theorem idx25_hs {es : List AV} {H : Heap} {b g i : Nat} {p : Bool} (hb : H.get b = some (.sl g 1 p es)) (h : i < es.length) : pIndexAddr Try.prog 25 (.hs b g) (.int .i64 i) H = some (.he b g i 0) := idx_hs und25 sz25 (by decide) hb h
theorem und27 : Try.prog.underlying 27 = some (.slice 22) := by kernel_rfl
theorem sz27 : size? Try.prog 22 = some 1 := by kernel_rfl
theorem ag27 : aggT Try.prog 22 = false := by kernel_rfl
@[simp] theorem len27_vs {es : List AV} {H : Heap} : pLen Try.prog 27 (.vs es) H = some (.int .i64 es.length) := by kernel_rfl
@[simp] theorem len27_nils {H : Heap} : pLen Try.prog 27 .nils H = some (.int .i64 0) := by kernel_rfl
@[simp] theorem len27_en {H : Heap} : pLen Try.prog 27 .en H = some (.int .i64 0) := by kernel_rfl
@[simp] theorem len27_es0 {H : Heap} : pLen Try.prog 27 .es0 H = some (.int .i64 0) := by kernel_rfl
theorem len27_row {x : AV} {es : List AV} {H : Heap} (h : rowOf x H = some es) : pLen Try.prog 27 x H = some (.int .i64 es.length) := len_row und27 h
theorem idx27_vs {es : List AV} {H : Heap} {i : Nat} {y : AV} (h : es[i]? = some y) (hy : y.cells.length = 1) : pIndexAddr Try.prog 27 (.vs es) (.int .i64 i) H = some (.ip y.cells 0) := idx_vs und27 sz27 (by decide) h hy
theorem idx27_hs {es : List AV} {H : Heap} {b g i : Nat} {p : Bool} (hb : H.get b = some (.sl g 1 p es)) (h : i < es.length) : pIndexAddr Try.prog 27 (.hs b g) (.int .i64 i) H = some (.he b g i 0) := idx_hs und27 sz27 (by decide) hb h
theorem und42 : Try.prog.underlying 42 = some (.slice 4) := by kernel_rfl
theorem sz42 : size? Try.prog 4 = some 1 := by kernel_rfl
theorem ag42 : aggT Try.prog 4 = false := by kernel_rfl
@[simp] theorem len42_vs {es : List AV} {H : Heap} : pLen Try.prog 42 (.vs es) H = some (.int .i64 es.length) := by kernel_rfl
@[simp] theorem len42_nils {H : Heap} : pLen Try.prog 42 .nils H = some (.int .i64 0) := by kernel_rfl
@[simp] theorem len42_en {H : Heap} : pLen Try.prog 42 .en H = some (.int .i64 0) := by kernel_rfl
@[simp] theorem len42_es0 {H : Heap} : pLen Try.prog 42 .es0 H = some (.int .i64 0) := by kernel_rfl
theorem len42_row {x : AV} {es : List AV} {H : Heap} (h : rowOf x H = some es) : pLen Try.prog 42 x H = some (.int .i64 es.length) := len_row und42 h
theorem idx42_vs {es : List AV} {H : Heap} {i : Nat} {y : AV} (h : es[i]? = some y) (hy : y.cells.length = 1) : pIndexAddr Try.prog 42 (.vs es) (.int .i64 i) H = some (.ip y.cells 0) := idx_vs und42 sz42 (by decide) h hy
theorem idx42_hs {es : List AV} {H : Heap} {b g i : Nat} {p : Bool} (hb : H.get b = some (.sl g 1 p es)) (h : i < es.length) : pIndexAddr Try.prog 42 (.hs b g) (.int .i64 i) H = some (.he b g i 0) := idx_hs und42 sz42 (by decide) hb h
theorem und149 : Try.prog.underlying 149 = some (.slice 151) := by kernel_rfl
theorem sz149 : size? Try.prog 151 = some 1 := by kernel_rfl
theorem ag149 : aggT Try.prog 151 = false := by kernel_rfl
@[simp] theorem len149_vs {es : List AV} {H : Heap} : pLen Try.prog 149 (.vs es) H = some (.int .i64 es.length) := by kernel_rfl
@[simp] theorem len149_nils {H : Heap} : pLen Try.prog 149 .nils H = some (.int .i64 0) := by kernel_rfl
@[simp] theorem len149_en {H : Heap} : pLen Try.prog 149 .en H = some (.int .i64 0) := by kernel_rfl
@[simp] theorem len149_es0 {H : Heap} : pLen Try.prog 149 .es0 H = some (.int .i64 0) := by kernel_rfl
theorem len149_row {x : AV} {es : List AV} {H : Heap} (h : rowOf x H = some es) : pLen Try.prog 149 x H = some (.int .i64 es.length) := len_row und149 h
theorem idx149_vs {es : List AV} {H : Heap} {i : Nat} {y : AV} (h : es[i]? = some y) (hy : y.cells.length = 1) : pIndexAddr Try.prog 149 (.vs es) (.int .i64 i) H = some (.ip y.cells 0) := idx_vs und149 sz149 (by decide) h hy
theorem idx149_hs {es : List AV} {H : Heap} {b g i : Nat} {p : Bool} (hb : H.get b = some (.sl g 1 p es)) (h : i < es.length) : pIndexAddr Try.prog 149 (.hs b g) (.int .i64 i) H = some (.he b g i 0) := idx_hs und149 sz149 (by decide) hb h
theorem und151 : Try.prog.underlying 151 = some (.slice 42) := by kernel_rfl
theorem sz151 : size? Try.prog 42 = some 1 := by kernel_rfl
theorem ag151 : aggT Try.prog 42 = false := by kernel_rfl
@[simp] theorem len151_vs {es : List AV} {H : Heap} : pLen Try.prog 151 (.vs es) H = some (.int .i64 es.length) := by kernel_rfl
@[simp] theorem len151_nils {H : Heap} : pLen Try.prog 151 .nils H = some (.int .i64 0) := by kernel_rfl
@[simp] theorem len151_en {H : Heap} : pLen Try.prog 151 .en H = some (.int .i64 0) := by kernel_rfl
@[simp] theorem len151_es0 {H : Heap} : pLen Try.prog 151 .es0 H = some (.int .i64 0) := by kernel_rfl
theorem len151_row {x : AV} {es : List AV} {H : Heap} (h : rowOf x H = some es) : pLen Try.prog 151 x H = some (.int .i64 es.length) := len_row und151 h
theorem idx151_vs {es : List AV} {H : Heap} {i : Nat} {y : AV} (h : es[i]? = some y) (hy : y.cells.length = 1) : pIndexAddr Try.prog 151 (.vs es) (.int .i64 i) H = some (.ip y.cells 0) := idx_vs und151 sz151 (by decide) h hy
theorem idx151_hs {es : List AV} {H : Heap} {b g i : Nat} {p : Bool} (hb : H.get b = some (.sl g 1 p es)) (h : i < es.length) : pIndexAddr Try.prog 151 (.hs b g) (.int .i64 i) H = some (.he b g i 0) := idx_hs und151 sz151 (by decide) hb h
theorem und188 : Try.prog.underlying 188 = some (.slice 187) := by kernel_rfl
theorem sz188 : size? Try.prog 187 = some 3 := by kernel_rfl
theorem ag188 : aggT Try.prog 187 = true := by kernel_rfl
@[simp] theorem len188_vs {es : List AV} {H : Heap} : pLen Try.prog 188 (.vs es) H = some (.int .i64 es.length) := by kernel_rfl
@[simp] theorem len188_nils {H : Heap} : pLen Try.prog 188 .nils H = some (.int .i64 0) := by kernel_rfl
@[simp] theorem len188_en {H : Heap} : pLen Try.prog 188 .en H = some (.int .i64 0) := by kernel_rfl
@[simp] theorem len188_es0 {H : Heap} : pLen Try.prog 188 .es0 H = some (.int .i64 0) := by kernel_rfl
theorem len188_row {x : AV} {es : List AV} {H : Heap} (h : rowOf x H = some es) : pLen Try.prog 188 x H = some (.int .i64 es.length) := len_row und188 h
theorem idx188_vs {es : List AV} {H : Heap} {i : Nat} {y : AV} (h : es[i]? = some y) (hy : y.cells.length = 3) : pIndexAddr Try.prog 188 (.vs es) (.int .i64 i) H = some (.ip y.cells 0) := idx_vs und188 sz188 (by decide) h hy
theorem idx188_hs {es : List AV} {H : Heap} {b g i : Nat} {p : Bool} (hb : H.get b = some (.sl g 3 p es)) (h : i < es.length) : pIndexAddr Try.prog 188 (.hs b g) (.int .i64 i) H = some (.he b g i 0) := idx_hs und188 sz188 (by decide) hb h
theorem ap22_22 : ApOk Try.prog 22 22 3 1 8 := ⟨by kernel_rfl, ⟨3, by kernel_rfl⟩, by kernel_rfl, ⟨((Try.prog.info? 3).getD default), by kernel_rfl, by kernel_rfl⟩, ⟨((zero? Try.prog 3).getD .undef), by kernel_rfl, by kernel_rfl⟩, by decide⟩
theorem ap151_151 : ApOk Try.prog 151 151 42 1 24 := ⟨by kernel_rfl, ⟨42, by kernel_rfl⟩, by kernel_rfl, ⟨((Try.prog.info? 42).getD default), by kernel_rfl, by kernel_rfl⟩, ⟨((zero? Try.prog 42).getD .undef), by kernel_rfl, by kernel_rfl⟩, by decide⟩
theorem ap188_188 : ApOk Try.prog 188 188 187 3 40 := ⟨by kernel_rfl, ⟨187, by kernel_rfl⟩, by kernel_rfl, ⟨((Try.prog.info? 187).getD default), by kernel_rfl, by kernel_rfl⟩, ⟨((zero? Try.prog 187).getD .undef), by kernel_rfl, by kernel_rfl⟩, by decide⟩
@[simp] theorem nil22_nils {H : Heap} : pBin Try.prog .eql 22 .nils .nils H = some (.bool true) := by kernel_rfl
@[simp] theorem nil22_en {H : Heap} : pBin Try.prog .eql 22 .en .nils H = some (.bool false) := by kernel_rfl
@[simp] theorem nil22_vs {x : AV} {es : List AV} {H : Heap} : pBin Try.prog .eql 22 (.vs (x :: es)) .nils H = some (.bool false) := by kernel_rfl
@[simp] theorem ld3_ip {cs : List AV} {o : Nat} {H : Heap} : pLoad Try.prog 3 (.ip cs o) H = cs[o]? := by kernel_rfl
theorem ld3_hp {cs : List AV} {b o : Nat} {H : Heap} (hb : H.get b = some (.cells cs)) : pLoad Try.prog 3 (.hp b o) H = cs[o]? := (ld_hp hb).trans ld3_ip
theorem ld3_he {es : List AV} {e : AV} {b g i o sz : Nat} {p : Bool} {H : Heap} (hb : H.get b = some (.sl g sz p es)) (he : es[i]? = some e) : pLoad Try.prog 3 (.he b g i o) H = pLoad Try.prog 3 (.ip e.cells o) H := ld_he hb he
@[simp] theorem ld4_ip {cs : List AV} {o : Nat} {H : Heap} : pLoad Try.prog 4 (.ip cs o) H = cs[o]? := by kernel_rfl
theorem ld4_hp {cs : List AV} {b o : Nat} {H : Heap} (hb : H.get b = some (.cells cs)) : pLoad Try.prog 4 (.hp b o) H = cs[o]? := (ld_hp hb).trans ld4_ip
theorem ld4_he {es : List AV} {e : AV} {b g i o sz : Nat} {p : Bool} {H : Heap} (hb : H.get b = some (.sl g sz p es)) (he : es[i]? = some e) : pLoad Try.prog 4 (.he b g i o) H = pLoad Try.prog 4 (.ip e.cells o) H := ld_he hb he
@[simp] theorem ld5_ip {cs : List AV} {o : Nat} {H : Heap} : pLoad Try.prog 5 (.ip cs o) H = cs[o]? := by kernel_rfl
theorem ld5_hp {cs : List AV} {b o : Nat} {H : Heap} (hb : H.get b = some (.cells cs)) : pLoad Try.prog 5 (.hp b o) H = cs[o]? := (ld_hp hb).trans ld5_ip
theorem ld5_he {es : List AV} {e : AV} {b g i o sz : Nat} {p : Bool} {H : Heap} (hb : H.get b = some (.sl g sz p es)) (he : es[i]? = some e) : pLoad Try.prog 5 (.he b g i o) H = pLoad Try.prog 5 (.ip e.cells o) H := ld_he hb he
@[simp] theorem ld22_ip {cs : List AV} {o : Nat} {H : Heap} : pLoad Try.prog 22 (.ip cs o) H = cs[o]? := by kernel_rfl
theorem ld22_hp {cs : List AV} {b o : Nat} {H : Heap} (hb : H.get b = some (.cells cs)) : pLoad Try.prog 22 (.hp b o) H = cs[o]? := (ld_hp hb).trans ld22_ip
theorem ld22_he {es : List AV} {e : AV} {b g i o sz : Nat} {p : Bool} {H : Heap} (hb : H.get b = some (.sl g sz p es)) (he : es[i]? = some e) : pLoad Try.prog 22 (.he b g i o) H = pLoad Try.prog 22 (.ip e.cells o) H := ld_he hb he
@[simp] theorem ld42_ip {cs : List AV} {o : Nat} {H : Heap} : pLoad Try.prog 42 (.ip cs o) H = cs[o]? := by kernel_rfl
theorem ld42_hp {cs : List AV} {b o : Nat} {H : Heap} (hb : H.get b = some (.cells cs)) : pLoad Try.prog 42 (.hp b o) H = cs[o]? := (ld_hp hb).trans ld42_ip
theorem ld42_he {es : List AV} {e : AV} {b g i o sz : Nat} {p : Bool} {H : Heap} (hb : H.get b = some (.sl g sz p es)) (he : es[i]? = some e) : pLoad Try.prog 42 (.he b g i o) H = pLoad Try.prog 42 (.ip e.cells o) H := ld_he hb he
@[simp] theorem ld146_ip {cs : List AV} {o : Nat} {H : Heap} : pLoad Try.prog 146 (.ip cs o) H = if o + 3 ≤ cs.length then some (.agg ((cs.drop o).take 3)) else none := by kernel_rfl
theorem ld146_hp {cs : List AV} {b o : Nat} {H : Heap} (hb : H.get b = some (.cells cs)) : pLoad Try.prog 146 (.hp b o) H = if o + 3 ≤ cs.length then some (.agg ((cs.drop o).take 3)) else none := (ld_hp hb).trans ld146_ip
theorem ld146_he {es : List AV} {e : AV} {b g i o sz : Nat} {p : Bool} {H : Heap} (hb : H.get b = some (.sl g sz p es)) (he : es[i]? = some e) : pLoad Try.prog 146 (.he b g i o) H = pLoad Try.prog 146 (.ip e.cells o) H := ld_he hb he
@[simp] theorem ld151_ip {cs : List AV} {o : Nat} {H : Heap} : pLoad Try.prog 151 (.ip cs o) H = cs[o]? := by kernel_rfl
theorem ld151_hp {cs : List AV} {b o : Nat} {H : Heap} (hb : H.get b = some (.cells cs)) : pLoad Try.prog 151 (.hp b o) H = cs[o]? := (ld_hp hb).trans ld151_ip
theorem ld151_he {es : List AV} {e : AV} {b g i o sz : Nat} {p : Bool} {H : Heap} (hb : H.get b = some (.sl g sz p es)) (he : es[i]? = some e) : pLoad Try.prog 151 (.he b g i o) H = pLoad Try.prog 151 (.ip e.cells o) H := ld_he hb he
@[simp] theorem ld187_ip {cs : List AV} {o : Nat} {H : Heap} : pLoad Try.prog 187 (.ip cs o) H = if o + 3 ≤ cs.length then some (.agg ((cs.drop o).take 3)) else none := by kernel_rfl
theorem ld187_hp {cs : List AV} {b o : Nat} {H : Heap} (hb : H.get b = some (.cells cs)) : pLoad Try.prog 187 (.hp b o) H = if o + 3 ≤ cs.length then some (.agg ((cs.drop o).take 3)) else none := (ld_hp hb).trans ld187_ip
theorem ld187_he {es : List AV} {e : AV} {b g i o sz : Nat} {p : Bool} {H : Heap} (hb : H.get b = some (.sl g sz p es)) (he : es[i]? = some e) : pLoad Try.prog 187 (.he b g i o) H = pLoad Try.prog 187 (.ip e.cells o) H := ld_he hb he
@[simp] theorem fa146_0 {x : AV} {H : Heap} : pFieldAddr Try.prog 146 x 0 H = addOff x 0 H := by kernel_rfl
@[simp] theorem fa146_1 {x : AV} {H : Heap} : pFieldAddr Try.prog 146 x 1 H = addOff x 1 H := by kernel_rfl
@[simp] theorem fa146_2 {x : AV} {H : Heap} : pFieldAddr Try.prog 146 x 2 H = addOff x 2 H := by kernel_rfl
@[simp] theorem fa187_0 {x : AV} {H : Heap} : pFieldAddr Try.prog 187 x 0 H = addOff x 0 H := by kernel_rfl
@[simp] theorem fa187_1 {x : AV} {H : Heap} : pFieldAddr Try.prog 187 x 1 H = addOff x 1 H := by kernel_rfl
@[simp] theorem fa187_2 {x : AV} {H : Heap} : pFieldAddr Try.prog 187 x 2 H = addOff x 2 H := by kernel_rfl
theorem st3_sz : size? Try.prog 3 = some 1 := by kernel_rfl
theorem st4_sz : size? Try.prog 4 = some 1 := by kernel_rfl
theorem st146_sz : size? Try.prog 146 = some 3 := by kernel_rfl
theorem st151_sz : size? Try.prog 151 = some 1 := by kernel_rfl
theorem st187_sz : size? Try.prog 187 = some 3 := by kernel_rfl
theorem al146_z : (zero? Try.prog 146).isSome = true := by kernel_rfl
theorem al187_z : (zero? Try.prog 187).isSome = true := by kernel_rfl
end Go.Proofs.Ytbkifahfbcalaaa
