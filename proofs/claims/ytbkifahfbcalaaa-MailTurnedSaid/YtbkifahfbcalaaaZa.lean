/-
  THE ABSTRACT MACHINE (part 0: definitions): a deterministic reading of Go code on tree values, over any program. Own work; nothing of the model is pasted in.
  THE ABSTRACT MACHINE (part 1): operations, regions, code, calls. Own work.
  THE ABSTRACT MACHINE (part 2): what its values and heaps say of the model's worlds; how that is carried along. Own work.
  THE ABSTRACT MACHINE (part 3): loads and stores of cells, as the model makes them; steps of the two heaps. Own work.
  THE ABSTRACT MACHINE (part 4): steps of the two heaps: nothing, a block turned, a block made. Own work.
  THE ABSTRACT MACHINE (part 5): operations that leave memory alone. Own work.
  THE ABSTRACT MACHINE (part 5b): comparisons, and the other operations that leave memory alone. Own work.
  THE ABSTRACT MACHINE (part 5c): the operations that leave memory alone, one by one. Own work.
  THE ABSTRACT MACHINE (part 6): the rest of the operations that leave memory alone. Own work.
  THE ABSTRACT MACHINE (part 6b): parts of rows; built values. Own work.
  THE ABSTRACT MACHINE (part 7): loads, stores, new variables and rows. Own work.
  THE ABSTRACT MACHINE (part 7b): new variables, rows and maps. Own work.
  THE ABSTRACT MACHINE (part 7c): append and copy. Own work.
  THE ABSTRACT MACHINE (part 7d): append, copy, maps. Own work.
  THE ABSTRACT MACHINE (part 7e): maps. Own work.
  THE ABSTRACT MACHINE (part 8): each operation but a call of a function is as the model does it. Own work.
-/
import Derived.Calls
import Derived.Tactics
import Derived.Great.FillDense
import Derived.Great.BuildSlice
import Derived.Laws.MakeOwn
set_option linter.unusedSimpArgs false
set_option linter.unusedVariables false
namespace Go.Am

inductive AV where
  | undef
  | bool (b : Bool)
  | int (k : IntKind) (n : Int)
  | str (s : ByteArray)
  | nilp | nils | nilm | nilf
  | agg (cs : List AV)
  | tup (vs : List AV)
  | vs (es : List AV)
  | es0
  | en
  | ip (cs : List AV) (off : Nat)
  | fm (ks vs : List AV)
  | hp (b off : Nat)
  | hs (b g : Nat)
  | hq (b g off n : Nat)
  | he (b g i off : Nat)
  | hm (b : Nat)
  | fn (f : FuncId) (first cap : List AV)
  | yld
  deriving Inhabited

namespace AV
def cells : AV → List AV
  | .agg cs => cs
  | v => [v]
def isAgg : AV → Bool
  | .agg _ => true
  | _ => false
/-- may it lie in one cell -/
def one : AV → Bool
  | .undef | .agg _ | .tup _ => false
  | _ => true
mutual
def refFree : AV → Bool
  | .agg cs => refFreeL cs
  | .tup cs => refFreeL cs
  | .fn _ a b => refFreeL a && refFreeL b
  | .hp _ _ | .hs _ _ | .hq _ _ _ _ | .he _ _ _ _ | .hm _ | .yld => false
  | _ => true
def refFreeL : List AV → Bool
  | [] => true
  | x :: r => refFree x && refFreeL r
end
mutual
def beq : AV → AV → Bool
  | .undef, .undef => true
  | .bool a, .bool b => a == b
  | .int k a, .int l b => k == l && a == b
  | .str a, .str b => decide (a = b)
  | .nilp, .nilp => true
  | .nils, .nils => true
  | .nilm, .nilm => true
  | .nilf, .nilf => true
  | .agg a, .agg b => beqL a b
  | .tup a, .tup b => beqL a b
  | .vs a, .vs b => beqL a b
  | .es0, .es0 => true
  | .en, .en => true
  | .ip a o, .ip b p => beqL a b && o == p
  | .fm a b, .fm c d => beqL a c && beqL b d
  | .hp a b, .hp c d => a == c && b == d
  | .hs a b, .hs c d => a == c && b == d
  | .hq a b o n, .hq c d p m => a == c && b == d && o == p && n == m
  | .he a b o n, .he c d p m => a == c && b == d && o == p && n == m
  | .hm a, .hm b => a == b
  | .fn f a b, .fn g c d => f == g && beqL a c && beqL b d
  | .yld, .yld => true
  | _, _ => false
def beqL : List AV → List AV → Bool
  | [], [] => true
  | a :: r, b :: s => beq a b && beqL r s
  | _, _ => false
end
/-- an element of a frozen row -/
def okElem (e : AV) : Bool := e.refFree && e.cells.all one
mutual
/-- references renamed; what is not renamed is forgotten -/
def ren (f : Nat → Nat → Option (Nat × Nat)) : AV → AV
  | .agg cs => .agg (renL f cs)
  | .tup cs => .tup (renL f cs)
  | .fn g a b => .fn g (renL f a) (renL f b)
  | .hp b off => match f b 0 with | some (b', _) => .hp b' off | none => .undef
  | .hm b => match f b 0 with | some (b', _) => .hm b' | none => .undef
  | .hs b g => match f b g with | some (b', g') => .hs b' g' | none => .undef
  | .hq b g o n => match f b g with | some (b', g') => .hq b' g' o n | none => .undef
  | .he b g i off => match f b g with | some (b', g') => .he b' g' i off | none => .undef
  | v => v
def renL (f : Nat → Nat → Option (Nat × Nat)) : List AV → List AV
  | [] => []
  | x :: r => ren f x :: renL f r
end
mutual
/-- the blocks that a value names -/
def refs : AV → List Nat
  | .agg cs => refsL cs
  | .tup cs => refsL cs
  | .fn _ a b => refsL a ++ refsL b
  | .hp b _ | .hs b _ | .hq b _ _ _ | .he b _ _ _ | .hm b => [b]
  | _ => []
def refsL : List AV → List Nat
  | [] => []
  | x :: r => refs x ++ refsL r
end
end AV

inductive ABlk where
  | cells (cs : List AV)
  | sl (g sz : Nat) (p : Bool) (es : List AV)
  | map (ks vs : List AV)
  deriving Inhabited

inductive AExit where
  | normal
  | exit (id : Nat)
  | ret
  deriving DecidableEq, Inhabited
/-- an outer call that ranges over a function: its blocks, and the jump that waits -/
structure OSt where
  next : Nat
  bs : List (Nat × ABlk)
  ex : Option AExit
  deriving Inhabited
structure Heap where
  next : Nat
  bs : List (Nat × ABlk)
  outer : List OSt := []
  deriving Inhabited
namespace Heap
def get (H : Heap) (b : Nat) : Option ABlk := H.bs.lookup b
def put (H : Heap) (b : Nat) (x : ABlk) : Heap := { H with next := max H.next (b + 1), bs := (b, x) :: H.bs.filter (fun q => q.1 != b) }
def reserve (H : Heap) (n : Nat) : Heap := { H with next := H.next + n }
end Heap

def ABlk.refs : ABlk → List Nat
  | .cells cs => AV.refsL cs
  | .sl _ _ true _ => []
  | .sl _ _ false es => AV.refsL es
  | .map ks vs => AV.refsL ks ++ AV.refsL vs
def ABlk.ren (f : Nat → Nat → Option (Nat × Nat)) (h : Nat → Nat) : ABlk → ABlk
  | .cells cs => .cells (AV.renL f cs)
  | .sl g sz true es => .sl (h g) sz true es
  | .sl g sz false es => .sl (h g) sz false (AV.renL f es)
  | .map ks vs => .map (AV.renL f ks) (AV.renL f vs)
def ABlk.beq : ABlk → ABlk → Bool
  | .cells a, .cells b => AV.beqL a b
  | .sl g s p a, .sl h t q b => g == h && s == t && p == q && AV.beqL a b
  | .map a b, .map c d => AV.beqL a c && AV.beqL b d
  | _, _ => false
def ABlk.gen : ABlk → Nat
  | .sl g _ _ _ => g
  | _ => 0

/-- the blocks that are named, there or not, in order of their first naming -/
def reach (H : Heap) : Nat → List Nat → List Nat → List Nat
  | 0, _, acc => acc.reverse
  | _, [], acc => acc.reverse
  | k + 1, b :: todo, acc =>
    if acc.contains b then reach H k todo acc
    else match H.get b with
      | none => reach H k todo (b :: acc)
      | some x => reach H k (x.refs ++ todo) (b :: acc)
def reachFuel : Nat := 100000
def touched (H : Heap) (roots : List AV) : List Nat := reach H reachFuel (AV.refsL roots) []
/-- those that are there -/
def reached (H : Heap) (roots : List AV) : List Nat := (touched H roots).filter fun b => (H.get b).isSome

/-- a renaming to the places of a list; of a row only the newest generation lives on, as generation 'h b g' -/
def toIdx (H : Heap) (order : List Nat) (h : Nat → Nat → Nat) (b g : Nat) : Option (Nat × Nat) :=
  match order.idxOf? b, H.get b with
  | some i, some (.sl g' _ _ _) => if g = g' then some (i, h b g) else none
  | some i, some _ => some (i, 0)
  | _, _ => none
def pack (H : Heap) (order : List Nat) (h : Nat → Nat → Nat) : List ABlk :=
  order.filterMap fun b => (H.get b).map (·.ren (toIdx H order h) (h b))
def heapOf (l : List ABlk) : Heap := { next := l.length, bs := (List.range l.length).zip l }
/-- generations begin anew -/
def fresh0 : Nat → Nat → Nat := fun _ _ => 0
/-- but of lent blocks -/
def freshBut (nL : Nat) : Nat → Nat → Nat := fun b g => if b < nL then g else 0
def keepGen : Nat → Nat → Nat := fun _ g => g

/-- cells of a row that are known to be one cell each -/
def ABlk.okRow : ABlk → Bool
  | .sl _ _ false es => es.all fun e => e.cells.all AV.one
  | _ => true
/-- each block is there, and nothing that its rows hold is forgotten -/
def packOk (H : Heap) (order : List Nat) (h : Nat → Nat → Nat) : Bool := (pack H order h).length == order.length && (pack H order h).all ABlk.okRow
/-- at a loop's head: what is live, packed; lent blocks keep their places -/
def canon (gc : Bool) (nL : Nat) (keep : List Bool) (fr : List AV) (H : Heap) : List AV × Heap :=
  let fr := (fr.zip keep).map fun q => if q.2 then q.1 else .undef
  if !gc then (fr, H) else
  let order := List.range nL ++ (reached H ((List.range nL).map (fun i => AV.hp i 0) ++ fr)).filter (nL ≤ ·)
  if packOk H order (freshBut nL) then (AV.renL (toIdx H order (freshBut nL)) fr, { heapOf (pack H order (freshBut nL)) with outer := H.outer }) else (fr, H)

/-! ### values -/
def ofConst1 : Value → AV
  | .bool b => .bool b
  | .int k n => .int k n
  | .string s => .str s
  | .slice none 0 0 => .nils
  | .pointer none => .nilp
  | .map none => .nilm
  | .nilFunc => .nilf
  | .func (.func f) first cap => if first.isEmpty && cap.isEmpty then .fn f [] [] else .undef
  | _ => .undef
def ofConst : Value → AV
  | .agg cs => .agg (cs.toList.map ofConst1)
  | v => ofConst1 v

section
variable (P : Program)
def size? (t : TypeId) : Option Nat := (P.info? t).map (·.size)
def aggT (t : TypeId) : Bool := match P.underlying t with | some (.struct _) | some (.array _ _) => true | _ => false
def zero? (t : TypeId) : Option AV := ((P.info? t).bind (·.zero)).map ofConst
def part (t : TypeId) (cs : List AV) (off : Nat) : Option AV :=
  match P.underlying t with
  | none => none
  | some _ =>
    if aggT P t then (size? P t).bind fun n => if off + n ≤ cs.length then some (.agg ((cs.drop off).take n)) else none
    else cs[off]?
def cellsAt (a : AV) (H : Heap) : Option (List AV × Nat) :=
  match a with
  | .ip cs off => some (cs, off)
  | .hp b off => match H.get b with | some (.cells cs) => some (cs, off) | _ => none
  | .he b g i off => match H.get b with
    | some (.sl g' _ _ es) => if g = g' then (es[i]?).map fun e => (e.cells, off) else none
    | _ => none
  | _ => none
def pLoad (t : TypeId) (a : AV) (H : Heap) : Option AV := (cellsAt a H).bind fun q => part P t q.1 q.2
def splice (cs : List AV) (off : Nat) (xs : List AV) : List AV := cs.take off ++ xs ++ cs.drop (off + xs.length)
def reCells (e : AV) (cs : List AV) : AV := match e with | .agg _ => .agg cs | _ => cs.headD .undef
def pStore (t : TypeId) (a v : AV) (H : Heap) : Option Heap :=
  (size? P t).bind fun n =>
  if v.cells.length = n && v.cells.all AV.one then
    match a with
    | .hp b off => match H.get b with
      | some (.cells cs) => if off + n ≤ cs.length then some (H.put b (.cells (splice cs off v.cells))) else none
      | _ => none
    | .he b g i off => match H.get b with
      | some (.sl g' sz p es) =>
        if g = g' then (es[i]?).bind fun e =>
          if off + n ≤ e.cells.length then some (H.put b (.sl g' sz (p && v.refFree) (es.set i (reCells e (splice e.cells off v.cells))))) else none
        else none
      | _ => none
    | _ => none
  else none
def rdOf : AV → List Nat
  | .hp b _ | .hs b _ | .hq b _ _ _ | .he b _ _ _ | .hm b => [b]
  | _ => []
def asN : AV → Option Int
  | .int _ n => some n
  | _ => none
/-- a row's elements: how many there are, and each -/
def rowOf (x : AV) (H : Heap) : Option (List AV) :=
  match x with
  | .vs es => some es
  | .nils | .es0 | .en => some []
  | .hs b g => match H.get b with | some (.sl g' _ _ es) => if g = g' then some es else none | _ => none
  | .hq b g o n => match H.get b with | some (.sl g' _ _ es) => if g = g' && o + n ≤ es.length then some ((es.drop o).take n) else none | _ => none
  | _ => none
/-- a pointer (or a function) that is surely none of nil -/
def liveP (x : AV) (H : Heap) : Bool :=
  match x with
  | .ip _ _ => true
  | .hp b _ => match H.get b with | some (.cells _) => true | _ => false
  | .he b g i _ => match H.get b with | some (.sl g' _ _ es) => g = g' && i < es.length | _ => false
  | _ => false
def addOff (a : AV) (n : Nat) (H : Heap) : Option AV :=
  if liveP a H then
    match a with
    | .ip cs off => some (.ip cs (off + n))
    | .hp b off => some (.hp b (off + n))
    | .he b g i off => some (.he b g i (off + n))
    | _ => none
  else none
def pFieldAddr (s : TypeId) (x : AV) (f : Nat) (H : Heap) : Option AV :=
  match P.underlying s with
  | some (.struct fs) => (fs[f]?).bind fun fd => (size? P fd.type).bind fun n => if n = 0 then none else addOff x fd.offset H
  | _ => none
def pField (t : TypeId) (x : AV) (f : Nat) : Option AV :=
  match P.underlying t, x with
  | some (.struct fs), .agg cs => (fs[f]?).bind fun fd => part P fd.type cs fd.offset
  | _, _ => none
def pIndexAddr (t : TypeId) (x i : AV) (H : Heap) : Option AV :=
  (asN i).bind fun n =>
  match P.underlying t with
  | some (.slice e) => (size? P e).bind fun sz =>
    if sz = 0 then none else
    match x with
    | .vs es => if 0 ≤ n && n < (es.length : Int) then (es[n.toNat]?).bind fun y => if y.cells.length = sz then some (.ip y.cells 0) else none else none
    | .hs b g => match H.get b with
      | some (.sl g' sz' _ es) => if g = g' && sz' = sz && 0 ≤ n && n < (es.length : Int) then some (.he b g n.toNat 0) else none
      | _ => none
    | .hq b g o m => match H.get b with
      | some (.sl g' sz' _ es) => if g = g' && sz' = sz && 0 ≤ n && n < (m : Int) && o + m ≤ es.length then some (.he b g (o + n.toNat) 0) else none
      | _ => none
    | _ => none
  | some (.array len e) => (size? P e).bind fun sz => if 0 ≤ n && n < (len : Int) then addOff x (n.toNat * sz) H else none
  | _ => none
def pIndex (t : TypeId) (x i : AV) : Option AV :=
  (asN i).bind fun n =>
  match P.underlying t, x with
  | some (.array len e), .agg cs => (size? P e).bind fun sz => if 0 ≤ n && n < (len : Int) then part P e cs (n.toNat * sz) else none
  | some .string, .str s => if 0 ≤ n then (s[n.toNat]?).map fun b => .int .u8 b.toNat else none
  | _, _ => none
def natIn (n : Int) (hi : Nat) : Option Nat := if 0 ≤ n && n ≤ (hi : Int) then some n.toNat else none
def bound? (x : Option AV) (d : Nat) (hi : Nat) : Option Nat :=
  match x with
  | none => some d
  | some v => (asN v).bind fun n => natIn n hi
def okHead (sz : Nat) : List AV → Bool
  | [] => true
  | e :: _ => e.cells.length == sz
def pSlice (t : TypeId) (x : AV) (lo hi mx : Option AV) (H : Heap) : Option AV :=
  match P.underlying t with
  | some (.slice e) => (size? P e).bind fun sz =>
    match mx with
    | none =>
      match x with
      | .vs es => (bound? hi es.length es.length).bind fun h => (bound? lo 0 h).bind fun l => if okHead sz es then some (.vs ((es.drop l).take (h - l))) else none
      | .nils => (bound? hi 0 0).bind fun h => (bound? lo 0 h).bind fun _ => some .nils
      | .es0 => (bound? hi 0 0).bind fun h => (bound? lo 0 h).bind fun _ => some .es0
      | .en => (bound? hi 0 0).bind fun h => (bound? lo 0 h).bind fun _ => some .en
      | .hs b g => match H.get b with
        | some (.sl g' sz' _ es) => if g = g' && sz' = sz then (bound? hi es.length es.length).bind fun h => (bound? lo 0 h).bind fun l =>
            some (if l = 0 && h = es.length then .hs b g else .hq b g l (h - l)) else none
        | _ => none
      | .hq b g o n => match H.get b with
        | some (.sl g' sz' _ es) => if g = g' && sz' = sz && o + n ≤ es.length then (bound? hi n n).bind fun h => (bound? lo 0 h).bind fun l =>
            some (.hq b g (o + l) (h - l)) else none
        | _ => none
      | _ => none
    | some m =>
      match x with
      | .vs es => (bound? (some m) 0 es.length).bind fun k => (bound? hi 0 k).bind fun h => (bound? lo 0 h).bind fun l => if hi.isSome && l = k then some .es0 else none
      | .nils => (bound? (some m) 0 0).bind fun k => (bound? hi 0 k).bind fun h => (bound? lo 0 h).bind fun _ => if hi.isSome then some .nils else none
      | _ => none
  | _ => none
def pLen (t : TypeId) (x : AV) (H : Heap) : Option AV :=
  match P.underlying t with
  | some (.slice _) => (rowOf x H).map fun es => .int .i64 es.length
  | some .string => match x with | .str s => some (.int .i64 s.size) | _ => none
  | some (.array n _) => some (.int .i64 n)
  | some (.map _ _) => match x with
    | .nilm => some (.int .i64 0)
    | .fm ks _ => some (.int .i64 ks.length)
    | .hm b => match H.get b with | some (.map ks _) => some (.int .i64 ks.length) | _ => none
    | _ => none
  | _ => none

/-- '==' of two plain values of one type -/
def aeq : Nat → TypeId → AV → AV → Option Bool
  | 0, _, _, _ => none
  | d + 1, t, x, y =>
    match P.underlying t, x, y with
    | some .bool, .bool a, .bool b => some (a == b)
    | some (.int _), .int k a, .int l b => if k = l then some (a == b) else none
    | some .string, .str a, .str b => some (a == b)
    | some (.struct fs), .agg xs, .agg ys =>
      if P.stoodInHeld t then none else
      fs.toList.foldl (fun acc f => acc.bind fun q => if q then
          (if f.name = "_" then some true else (part P f.type xs f.offset).bind fun u => (part P f.type ys f.offset).bind fun v => aeq d f.type u v)
        else some false) (some true)
    | some (.array len e), .agg xs, .agg ys => (size? P e).bind fun n =>
      (List.range len).foldl (fun acc i => acc.bind fun q => if q then
          (part P e xs (i * n)).bind fun u => (part P e ys (i * n)).bind fun v => aeq d e u v
        else some false) (some true)
    | _, _, _ => none
def eqNil (t : TypeId) (x y : AV) (H : Heap) : Option Bool :=
  match P.underlying t with
  | some (.slice _) => match x, y with
    | .nils, .nils => some true
    | .en, .nils => some false
    | .vs (_ :: _), .nils => some false
    | .hs b g, .nils => match H.get b with | some (.sl g' _ _ (_ :: _)) => if g = g' then some false else none | _ => none
    | _, _ => none
  | some (.pointer _) => match x, y with
    | .nilp, .nilp => some true
    | _, .nilp => if liveP x H then some false else none
    | _, _ => none
  | some (.map _ _) => match x, y with
    | .nilm, .nilm => some true
    | .fm _ _, .nilm => some false
    | _, _ => none
  | some (.func _ _ _) => match x, y with
    | .nilf, .nilf => some true
    | .fn _ _ _, .nilf => some false
    | _, _ => none
  | _ => none
def intBin (op : BinOp) (k : IntKind) (a b : Int) : Option AV :=
  match op with
  | .add => some (.int k (k.wrap (a + b)))
  | .sub => some (.int k (k.wrap (a - b)))
  | .mul => some (.int k (k.wrap (a * b)))
  | .quo => if b = 0 then none else some (.int k (k.wrap (a.tdiv b)))
  | .rem => if b = 0 then none else some (.int k (a.tmod b))
  | .and => some (.int k (k.wrap (BitVec.ofInt k.bits a &&& BitVec.ofInt k.bits b).toNat))
  | .or => some (.int k (k.wrap (BitVec.ofInt k.bits a ||| BitVec.ofInt k.bits b).toNat))
  | .xor => some (.int k (k.wrap (BitVec.ofInt k.bits a ^^^ BitVec.ofInt k.bits b).toNat))
  | .andNot => some (.int k (k.wrap (BitVec.ofInt k.bits a &&& ~~~BitVec.ofInt k.bits b).toNat))
  | .eql => some (.bool (a == b))
  | .neq => some (.bool (a != b))
  | .lss => some (.bool (decide (a < b)))
  | .leq => some (.bool (decide (a ≤ b)))
  | .gtr => some (.bool (decide (a > b)))
  | .geq => some (.bool (decide (a ≥ b)))
  | _ => none
def pBin (op : BinOp) (t : TypeId) (x y : AV) (H : Heap) : Option AV :=
  match op, x, y with
  | .shl, .int k a, .int _ b => if b < 0 then none else some (.int k (k.wrap (a * 2 ^ (min b.toNat k.bits))))
  | .shr, .int k a, .int _ b => if b < 0 then none else some (.int k (a.fdiv (2 ^ (min b.toNat k.bits))))
  | _, .int k a, .int l b => if k = l then intBin op k a b else none
  | .eql, .agg _, .agg _ => if P.eqGuardType P.depth t then none else (aeq P 10 t x y).map .bool
  | .neq, .agg _, .agg _ => if P.eqGuardType P.depth t then none else (aeq P 10 t x y).map fun b => .bool !b
  | .eql, .bool a, .bool b => if P.underlying t matches some .bool then some (.bool (a == b)) else none
  | .neq, .bool a, .bool b => if P.underlying t matches some .bool then some (.bool (!(a == b))) else none
  | .eql, _, _ => (eqNil P t x y H).map .bool
  | .neq, _, _ => (eqNil P t x y H).map fun b => .bool !b
  | _, _, _ => none
def pUn (op : UnOp) (x : AV) : Option AV :=
  match op, x with
  | .neg, .int k n => some (.int k (k.wrap (0 - n)))
  | .not, .bool b => some (.bool !b)
  | _, _ => none
def pConv (src dst : TypeId) (x : AV) : Option AV :=
  match P.underlying src, P.underlying dst, x with
  | some _, some (.int k), .int _ n => some (.int k (k.wrap n))
  | _, _, _ => none
def pPick (c a b : AV) : Option AV := match c with | .bool t => some (if t then a else b) | _ => none
def pNil (x : AV) (H : Heap) : Option AV :=
  match x with
  | .fn _ _ _ => some x
  | _ => if liveP x H then some x else none
def pExtract (x : AV) (i : Nat) : Option AV := match x with | .tup vs => vs[i]? | _ => none
def fillA (place : Nat → Option (Nat × Nat)) (cells : List AV) : List (Nat × AV) → Option (List AV)
  | [] => some cells
  | (i, v) :: rest =>
    match place i with
    | none => none
    | some (off, n) => if v.cells.length = n && off + n ≤ cells.length && v.cells.all AV.one then fillA place (splice cells off v.cells) rest else none
def pBuild (t : TypeId) (parts : List (Nat × AV)) : Option AV :=
  (zero? P t).bind fun z =>
  match P.underlying t with
  | some (.struct fs) => (fs.toList.mapM (fun f => (P.info? f.type).map fun i => (f.offset, i.size))).bind fun pl => (fillA (fun i => pl[i]?) z.cells parts).map .agg
  | some (.array _ e) => (size? P e).bind fun n => (fillA (fun i => some (i * n, n)) z.cells parts).map .agg
  | _ => none
def ofCells (agg : Bool) (cs : List AV) : AV := if agg then .agg cs else cs.headD .undef
/-- a literal's elements: each is given, in order -/
def litElems (sz : Nat) (agg : Bool) : Nat → List (Nat × AV) → Option (List AV)
  | _, [] => some []
  | k, (i, v) :: rest => if i = k && v.cells.length = sz && v.cells.all AV.one && v.isAgg == agg then (litElems sz agg (k + 1) rest).map (v :: ·) else none
def pLit (t : TypeId) (len : Nat) (parts : List (Nat × AV)) : Option (Nat × List AV) :=
  match P.underlying t with
  | some (.slice e) => (size? P e).bind fun sz => if sz = 0 || len * sz > 2 ^ 20 || (zero? P e).isNone then none else
    (litElems sz (aggT P e) 0 parts).bind fun es => if es.length = len then some (sz, es) else none
  | _ => none
def maxBytes : Nat := 2 ^ 45
def pMake (t : TypeId) (len cap : AV) : Option (Nat × List AV) :=
  match P.underlying t with
  | some (.slice e) => (size? P e).bind fun sz => (zero? P e).bind fun z => (P.info? e).bind fun inf =>
    (asN len).bind fun n => (asN cap).bind fun c =>
    if 0 ≤ n && n ≤ c && c ≤ (maxBytes : Int) && c * (inf.bytes : Int) ≤ (maxBytes : Int) && sz ≠ 0 && z.cells.length = sz && z.cells.all AV.one && z.refFree && z.isAgg == aggT P e then some (sz, List.replicate n.toNat z) else none
  | _ => none
def eqInts : AV → AV → Bool
  | .int k a, .int l b => k == l && a == b
  | .bool a, .bool b => a == b
  | .str a, .str b => decide (a = b) && a == a
  | .agg cs, .agg ds => cs.length == ds.length && (cs.zip ds).all fun q => match q.1, q.2 with | .int k a, .int l b => k == l && a == b | _, _ => false
  | _, _ => false
/-- a key whose value says all that it is -/
def plainKey (t : TypeId) (k : AV) : Bool := eqInts k k && (aeq P 10 t k k == some true)
/-- where a key stands among keys -/
def findK (t : TypeId) (k : AV) : List AV → Nat → Option (Option Nat)
  | [], _ => some none
  | x :: r, i => (aeq P 10 t k x).bind fun b => if b then some (some i) else findK t k r (i + 1)
def mapOf (m : AV) (H : Heap) : Option (List AV × List AV) :=
  match m with
  | .nilm => some ([], [])
  | .fm ks vs => some (ks, vs)
  | .hm b => match H.get b with | some (.map ks vs) => some (ks, vs) | _ => none
  | _ => none
def pLookup (t : TypeId) (m k : AV) (ok : Bool) (H : Heap) : Option AV :=
  match P.underlying t with
  | some (.map kt e) => if plainKey P kt k then (mapOf m H).bind fun q => (findK P kt k q.1 0).bind fun r =>
      (match r with | some i => q.2[i]? | none => zero? P e).map fun v => if ok then .tup [v, .bool r.isSome] else v
    else none
  | _ => none
def pMapUpdate (t : TypeId) (m k v : AV) (H : Heap) : Option Heap :=
  match P.underlying t, m with
  | some (.map kt _), .hm b => if plainKey P kt k then match H.get b with
    | some (.map ks vs) => (findK P kt k ks 0).bind fun r => match r with
      | some i => if eqInts (ks.getD i .undef) k then some (H.put b (.map ks (vs.set i v))) else none
      | none => some (H.put b (.map (ks ++ [k]) (vs ++ [v])))
    | _ => none
    else none
  | _, _ => none
def okSrc (sz : Nat) (es : List AV) : Bool := es.all fun e => e.cells.length = sz
/-- append: the value and the heap -/
def pAppend (t : TypeId) (xt : TypeId) (s x : AV) (nid : Nat) (H : Heap) : Option (AV × Heap) :=
  match P.underlying t, P.underlying xt with
  | some (.slice e), some (.slice _) => (size? P e).bind fun sz => (P.info? e).bind fun inf => (zero? P e).bind fun z =>
    if sz = 0 || inf.bytes = 0 || z.cells.length ≠ sz then none else
    (rowOf x H).bind fun src =>
    if okSrc sz src then
      match s with
      | .nils | .es0 => if src.isEmpty then some (s, H) else
          if src.length * inf.bytes ≤ maxBytes then some (.hs nid 0, H.put nid (.sl 0 sz (AV.refFreeL src) src)) else none
      | .hs b g => match H.get b with
        | some (.sl g' sz' p es) => if g = g' && sz' = sz then (if src.isEmpty then some (s, H) else
            if (es.length + src.length) * inf.bytes ≤ maxBytes then some (.hs b (g + 1), H.put b (.sl (g + 1) sz (p && AV.refFreeL src) (es ++ src))) else none) else none
        | _ => none
      | .hq b g o n => match H.get b with
        | some (.sl g' sz' p es) => if g = g' && sz' = sz && o = 0 && n ≤ es.length then (if src.isEmpty then some (s, H) else
            if (n + src.length) * inf.bytes ≤ maxBytes then some (.hs b (g + 1), H.put b (.sl (g + 1) sz (p && AV.refFreeL src) (es.take n ++ src))) else none) else none
        | _ => none
      | _ => none
    else none
  | _, _ => none
/-- copy: how many, and the heap -/
def pCopy (t : TypeId) (d x : AV) (H : Heap) : Option (AV × Heap) :=
  match P.underlying t with
  | some (.slice e) => (size? P e).bind fun sz =>
    if sz = 0 then none else
    (rowOf x H).bind fun src =>
    if okSrc sz src then
      match d with
      | .hs b g => match H.get b with
        | some (.sl g' sz' p es) => if g = g' && sz' = sz then
            let c := min src.length es.length
            if c = 0 then some (.int .i64 0, H) else some (.int .i64 c, H.put b (.sl g' sz' (p && AV.refFreeL src) (src.take c ++ es.drop c))) else none
        | _ => none
      | .hq b g o n => match H.get b with
        | some (.sl g' sz' p es) => if g = g' && sz' = sz && o + n ≤ es.length then
            let c := min src.length n
            if c = 0 then some (.int .i64 0, H) else some (.int .i64 c, H.put b (.sl g' sz' (p && AV.refFreeL src) (es.take o ++ src.take c ++ es.drop (o + c)))) else none
        | _ => none
      | _ => none
    else none
  | _ => none
def min2 (a b : AV) : Option AV := match a, b with | .int k x, .int _ y => some (.int k (if y < x then y else x)) | _, _ => none
def max2 (a b : AV) : Option AV := match a, b with | .int k x, .int _ y => some (.int k (if y > x then y else x)) | _, _ => none
end
end Go.Am
namespace Go.Am

structure Ann where
  pos : List Nat
  loops : List (Nat × List Nat) := []
  flags : List ((Nat × Nat) × Nat) := []
  pre : List (Nat × List Nat) := []
  frz : Bool := true
  deriving Inhabited

abbrev CallFn := FuncId → List AV → List ABlk → Option (AV × List ABlk)

abbrev YFn := List AV → List OSt → Option (Bool × List OSt)
structure Cx where
  P : Program
  call : CallFn
  callY : YFn → FuncId → List AV → List OSt → Option (AV × List OSt)
  yield : Option YFn
  gc : Bool
  nL : Nat
  ann : Ann
  k : Nat

def AV.scalar1 : AV → Bool
  | .bool _ | .int _ _ | .str _ => true
  | _ => false
def AV.scalar : AV → Bool
  | .tup l => l.all AV.scalar1
  | v => v.scalar1

/-- what is live turns into a tree, if its block is among Z; the first nL blocks stay as they are -/
def frz : Nat → Nat → List Nat → Heap → AV → AV
  | 0, _, _, _, v => if v.refFree then v else .undef
  | n + 1, nL, Z, H, v =>
    if v.refFree then v else
    match v with
    | .agg cs => .agg (cs.map (frz n nL Z H))
    | .tup cs => .tup (cs.map (frz n nL Z H))
    | .fn f a b => .fn f (a.map (frz n nL Z H)) (b.map (frz n nL Z H))
    | .hs b g => if b < nL then .hs b g else if !Z.contains b then .undef else
      match H.get b with
      | some (.sl g' _ p es) => if g = g' then (if p then .vs es else
          let es' := es.map (frz n nL Z H)
          if es'.all AV.okElem then .vs es' else .undef) else .undef
      | _ => .undef
    | .hp b off => if b < nL then .hp b off else if !Z.contains b then .undef else
      match H.get b with
      | some (.cells cs) => let cs' := cs.map (frz n nL Z H); if cs'.all AV.refFree then .ip cs' off else .undef
      | _ => .undef
    | .hm b => if b < nL then .hm b else if !Z.contains b then .undef else
      match H.get b with
      | some (.map ks vs) => let ks' := ks.map (frz n nL Z H); let vs' := vs.map (frz n nL Z H); if ks'.all AV.refFree && vs'.all AV.refFree then .fm ks' vs' else .undef
      | _ => .undef
    | .hq b g o m => if b < nL || !Z.contains b then .undef else
      match H.get b with
      | some (.sl g' _ true es) => if g = g' && o + m ≤ es.length then .vs ((es.drop o).take m) else .undef
      | _ => .undef
    | _ => .undef
def Heap.drop (H : Heap) (Z : List Nat) : Heap := { H with bs := H.bs.filter fun q => !Z.contains q.1 }
/-- a value frozen, what it reaches dropped -/
def pFrz (nL : Nat) (v : AV) (H : Heap) : AV × Heap :=
  if v.refFree then (v, H) else (frz 12 nL ((reached H [v]).filter fun b => nL ≤ b) H v, H.drop ((reached H [v]).filter fun b => nL ≤ b))

def AV.flat (v : AV) : Bool := v.cells.all AV.scalar1
def ABlk.flat : ABlk → Bool
  | .cells cs => cs.all AV.scalar1
  | .sl _ _ _ es => es.all AV.flat
  | .map _ _ => false
/-- a value that leads to no memory but to a callee's own blocks -/
def AV.own : AV → Bool
  | .hs _ _ | .hp _ _ | .nils => true
  | v => v.scalar
/-- a live row read as a tree for the time of a call -/
def borrow1 (H : Heap) (a : AV) : AV :=
  match a with
  | .hs b g => match H.get b with | some (.sl g' _ true es) => if g = g' then .vs es else a | _ => a
  | .hq b g o n => match H.get b with | some (.sl g' _ true es) => if g = g' && o + n ≤ es.length then .vs ((es.drop o).take n) else a | _ => a
  | _ => a
def isRow : AV → Bool
  | .hs _ _ | .hq _ _ _ _ => true
  | _ => false
def genOf (H : Heap) (b : Nat) : Nat := ((H.get b).map ABlk.gen).getD 0
/-- places of a callee's blocks in the caller's heap -/
def backMap (H : Heap) (order : List Nat) (nid : Nat) (b g : Nat) : Option (Nat × Nat) :=
  match order[b]? with
  | some o => some (o, genOf H o + g)
  | none => some (nid + (b - order.length), g)
def putAll (H : Heap) (order : List Nat) (nid : Nat) : List ABlk → Nat → Heap → Heap
  | [], _, acc => acc
  | x :: r, i, acc =>
    putAll H order nid r (i + 1) (match order[i]? with
      | some o => acc.put o (x.ren (backMap H order nid) (fun g => genOf H o + g))
      | none => acc.put (nid + (i - order.length)) (x.ren (backMap H order nid) (fun g => g)))
/-- the blocks of a list that are not what they were -/
def turned (H H' : Heap) (order : List Nat) : List Nat :=
  order.filter fun b => match H.get b, H'.get b with
    | some x, some y => !x.beq y
    | _, _ => true
/-- a call: the value, the heap, the blocks that it may have read, those that it has turned; rows are lent as trees but under flag 4 -/
def pCall (call : CallFn) (fl : Nat) (f : FuncId) (args0 : List AV) (H : Heap) (nid : Nat) : Option (AV × Heap × List Nat × List Nat) :=
  let args := if fl = 4 then args0 else args0.map (borrow1 H)
  if AV.refFreeL args then
    (call f args []).bind fun r =>
      if fl ≠ 4 && args0.any isRow then (if r.1.own && r.2.all ABlk.flat && r.2.length ≤ 8 then some (r.1.ren (backMap H [] nid), putAll H [] nid r.2 0 H, AV.refsL args0, List.range' nid r.2.length) else none)
      else if r.2.isEmpty then (if r.1.refFree then some (r.1, H, [], []) else none)
      else if r.2.length ≤ 8 then some (r.1.ren (backMap H [] nid), putAll H [] nid r.2 0 H, [], List.range' nid r.2.length)
      else none
  else if args0.any isRow && fl ≠ 4 then none
  else
    let order := reached H args
    (call f (AV.renL (toIdx H order fresh0) args) (pack H order fresh0)).bind fun r =>
      if order.length ≤ r.2.length && r.2.length ≤ order.length + 8 && packOk H order fresh0 then
        some (r.1.ren (backMap H order nid), putAll H order nid r.2 0 H, touched H args, turned H (putAll H order nid r.2 0 H) order ++ List.range' nid (r.2.length - order.length))
      else none

def fnOf : AV → Option (FuncId × List AV × List AV)
  | .fn f a b => some (f, a, b)
  | _ => none
def outerId : Nat := 1000000
/-- a round of an outer call's loop -/
def pYield (y : Option YFn) (args : List AV) (H : Heap) : Option (AV × Heap) :=
  y.bind fun Y => if AV.refFreeL args then (Y args H.outer).map fun r => (.bool r.1, { H with outer := r.2 }) else none
def frozen1 (v : AV) : Option (List AV) := if v.okElem then some v.cells else none
def pBox (fl : Nat) (v : AV) (nid : Nat) (H : Heap) : AV × Heap :=
  if fl ≠ 1 && v.okElem then (.ip v.cells 0, H) else (.hp nid 0, H.put nid (.cells v.cells))
def pRow (fl sz : Nat) (es : List AV) (nid : Nat) (H : Heap) : AV × Heap :=
  if fl ≠ 1 && es.all AV.okElem then (.vs es, H) else (.hs nid 0, H.put nid (.sl 0 sz (AV.refFreeL es) es))
def accOf (P : Program) (t : TypeId) (v : AV) (nid : Nat) (H : Heap) : Option (AV × Heap) :=
  match v with
  | .nils => match P.underlying t with
    | some (.slice e) => (size? P e).bind fun sz => if sz = 0 then none else some (.hs nid 0, H.put nid (.sl 0 sz true []))
    | _ => none
  | _ => none

/-! ### values worked out (for the kernel's sake: each of these hands over what it was given) -/
def fN {R : Type} (n : Nat) (k : Nat → R) : R := match n with | 0 => k 0 | m + 1 => k (m + 1)
def fI {R : Type} (n : Int) (k : Int → R) : R := match n with | .ofNat m => fN m fun m => k (.ofNat m) | .negSucc m => fN m fun m => k (.negSucc m)
def fB {R : Type} (b : Bool) (k : Bool → R) : R := match b with | true => k true | false => k false
mutual
def fz {R : Type} : AV → (AV → R) → R
  | .undef, k => k .undef
  | .bool b, k => fB b fun b => k (.bool b)
  | .int t n, k => fI n fun n => k (.int t n)
  | .str s, k => k (.str s)
  | .nilp, k => k .nilp
  | .nils, k => k .nils
  | .nilm, k => k .nilm
  | .nilf, k => k .nilf
  | .agg cs, k => fzL cs fun cs => k (.agg cs)
  | .tup cs, k => fzL cs fun cs => k (.tup cs)
  | .vs cs, k => fzL cs fun cs => k (.vs cs)
  | .es0, k => k .es0
  | .en, k => k .en
  | .ip cs o, k => fzL cs fun cs => fN o fun o => k (.ip cs o)
  | .fm a b, k => fzL a fun a => fzL b fun b => k (.fm a b)
  | .hp b o, k => fN b fun b => fN o fun o => k (.hp b o)
  | .hs b g, k => fN b fun b => fN g fun g => k (.hs b g)
  | .hq b g o n, k => fN b fun b => fN g fun g => fN o fun o => fN n fun n => k (.hq b g o n)
  | .he b g o n, k => fN b fun b => fN g fun g => fN o fun o => fN n fun n => k (.he b g o n)
  | .hm b, k => fN b fun b => k (.hm b)
  | .fn f a b, k => fN f fun f => fzL a fun a => fzL b fun b => k (.fn f a b)
  | .yld, k => k .yld
def fzL {R : Type} : List AV → (List AV → R) → R
  | [], k => k []
  | x :: r, k => fz x fun x => fzL r fun r => k (x :: r)
end
def fzB {R : Type} (x : ABlk) (k : ABlk → R) : R :=
  match x with
  | .cells cs => fzL cs fun cs => k (.cells cs)
  | .sl g sz p es => fN g fun g => fN sz fun sz => fB p fun p => fzL es fun es => k (.sl g sz p es)
  | .map a b => fzL a fun a => fzL b fun b => k (.map a b)
def fzBs {R : Type} : List (Nat × ABlk) → (List (Nat × ABlk) → R) → R
  | [], k => k []
  | (b, x) :: r, k => fN b fun b => fzB x fun x => fzBs r fun r => k ((b, x) :: r)
def fzBl {R : Type} : List ABlk → (List ABlk → R) → R
  | [], k => k []
  | x :: r, k => fzB x fun x => fzBl r fun r => k (x :: r)
def fzH {R : Type} (H : Heap) (k : Heap → R) : R := match H with | ⟨n, bs, o⟩ => fN n fun n => fzBs bs fun bs => k ⟨n, bs, o⟩
def fzQ {R : Type} (v : AV) (H : Heap) (wr : List Nat) (k : AV → Heap → R) : R := fz v fun v => match wr with | [] => k v H | _ => fzH H fun H => k v H
theorem fN_eq {R : Type} (n : Nat) (k : Nat → R) : fN n k = k n := by cases n <;> rfl
theorem fI_eq {R : Type} (n : Int) (k : Int → R) : fI n k = k n := by cases n <;> simp only [fI, fN_eq]
theorem fB_eq {R : Type} (n : Bool) (k : Bool → R) : fB n k = k n := by cases n <;> rfl
mutual
theorem fz_eq {R : Type} : ∀ (v : AV) (k : AV → R), fz v k = k v
  | .undef, _ | .str _, _ | .nilp, _ | .nils, _ | .nilm, _ | .nilf, _ | .es0, _ | .en, _ | .yld, _ => by simp only [fz]
  | .bool _, _ | .int _ _, _ | .hp _ _, _ | .hs _ _, _ | .hq _ _ _ _, _ | .he _ _ _ _, _ | .hm _, _ => by simp only [fz, fN_eq, fI_eq, fB_eq]
  | .agg cs, _ | .tup cs, _ | .vs cs, _ => by simp only [fz]; rw [fzL_eq cs]
  | .ip cs o, _ => by simp only [fz]; rw [fzL_eq cs]; simp only [fN_eq]
  | .fm a b, _ => by simp only [fz]; rw [fzL_eq a, fzL_eq b]
  | .fn f a b, _ => by simp only [fz, fN_eq]; rw [fzL_eq a, fzL_eq b]
theorem fzL_eq {R : Type} : ∀ (v : List AV) (k : List AV → R), fzL v k = k v
  | [], _ => by simp only [fzL]
  | x :: r, k => by simp only [fzL]; rw [fz_eq x, fzL_eq r]
end
theorem fzB_eq {R : Type} (x : ABlk) (k : ABlk → R) : fzB x k = k x := by cases x <;> simp only [fzB, fzL_eq, fN_eq, fB_eq]
theorem fzBs_eq {R : Type} : ∀ (l : List (Nat × ABlk)) (k : List (Nat × ABlk) → R), fzBs l k = k l
  | [], _ => rfl
  | (b, x) :: r, k => by simp only [fzBs, fN_eq, fzB_eq]; rw [fzBs_eq r]
theorem fzBl_eq {R : Type} : ∀ (l : List ABlk) (k : List ABlk → R), fzBl l k = k l
  | [], _ => rfl
  | x :: r, k => by simp only [fzBl, fzB_eq]; rw [fzBl_eq r]
theorem fzH_eq {R : Type} (H : Heap) (k : Heap → R) : fzH H k = k H := by cases H; simp only [fzH, fN_eq, fzBs_eq]
theorem fzQ_eq {R : Type} (v : AV) (H : Heap) (wr : List Nat) (k : AV → Heap → R) : fzQ v H wr k = k v H := by cases wr <;> simp only [fzQ, fz_eq, fzH_eq]

section
variable {R : Type}
/-- one operation; flags: 1 what is made is live, 2 a nil row is made live, 3 the value is frozen, 4 rows are lent themselves -/
def astep0 (cx : Cx) (fl : Nat) (o : Oper) (ρ : Operand → AV) (nid : Nat) (H : Heap) (K : AV → Heap → List Nat → List Nat → Option R) : Option R :=
  match o.op with
  | .move x | .assign x => match fl with
    | 2 => (accOf cx.P o.type (ρ x) nid H).bind fun q => K q.1 q.2 [] [nid]
    | _ => K (ρ x) H [] []
  | .pick c a b => (pPick (ρ c) (ρ a) (ρ b)).bind fun v => K v H [] []
  | .nilCheck x => (pNil (ρ x) H).bind fun v => K v H (rdOf (ρ x)) []
  | .binOp op t x y _ => (pBin cx.P op t (ρ x) (ρ y) H).bind fun v => K v H (rdOf (ρ x)) []
  | .unOp op _ x => (pUn op (ρ x)).bind fun v => K v H [] []
  | .convert s d x => (pConv cx.P s d (ρ x)).bind fun v => K v H [] []
  | .fieldAddr s x f => (pFieldAddr cx.P s (ρ x) f H).bind fun v => K v H (rdOf (ρ x)) []
  | .field t x f => (pField cx.P t (ρ x) f).bind fun v => K v H [] []
  | .indexAddr t x i => (pIndexAddr cx.P t (ρ x) (ρ i) H).bind fun v => K v H (rdOf (ρ x)) []
  | .index t x i => (pIndex cx.P t (ρ x) (ρ i)).bind fun v => K v H [] []
  | .slice t x lo hi mx => (pSlice cx.P t (ρ x) (lo.map ρ) (hi.map ρ) (mx.map ρ) H).bind fun v => K v H (rdOf (ρ x)) []
  | .extract x i => (pExtract (ρ x) i).bind fun v => K v H [] []
  | .makeFunc (.func f) first cap => K (.fn f (first.toList.map ρ) (cap.toList.map ρ)) H [] []
  | .build t parts => (pBuild cx.P t (parts.toList.map fun q => (q.1, ρ q.2))).bind fun v => K v H [] []
  | .buildSlice t len parts => (pLit cx.P t len (parts.toList.map fun q => (q.1, ρ q.2))).bind fun q =>
      K (pRow fl q.1 q.2 nid H).1 (pRow fl q.1 q.2 nid H).2 [] [nid]
  | .box _ x => if (ρ x).cells.all AV.one then K (pBox fl (ρ x) nid H).1 (pBox fl (ρ x) nid H).2 [] [nid] else none
  | .alloc t => (zero? cx.P t).bind fun z => match fl with
    | 1 => K (.hp nid 0) (H.put nid (.cells z.cells)) [] [nid]
    | _ => (frozen1 z).bind fun cs => K (.ip cs 0) H [] []
  | .makeSlice t l c => (pMake cx.P t (ρ l) (ρ c)).bind fun q => match fl with
    | 1 => K (.hs nid 0) (H.put nid (.sl 0 q.1 true q.2)) [] [nid]
    | _ => K (.vs q.2) H [] []
  | .makeMap _ none => K (.hm nid) (H.put nid (.map [] [])) [] [nid]
  | .load t a => (pLoad cx.P t (ρ a) H).bind fun v => K v H (rdOf (ρ a)) []
  | .store t a x => (pStore cx.P t (ρ a) (ρ x) H).bind fun H' => K (.tup []) H' [] (rdOf (ρ a))
  | .lookup t m k ok => (pLookup cx.P t (ρ m) (ρ k) ok H).bind fun v => K v H (rdOf (ρ m)) []
  | .mapUpdate t m k x | .insert t m k x => (pMapUpdate cx.P t (ρ m) (ρ k) (ρ x) H).bind fun H' => K (.tup []) H' [] (rdOf (ρ m))
  | .call c => match c.callee with
    | .builtin .len => match c.args.toList, c.argTypes.toList with
      | [a], [t] => (pLen cx.P t (ρ a) H).bind fun v => K v H (rdOf (ρ a)) []
      | _, _ => none
    | .builtin .append => match c.args.toList, c.argTypes.toList with
      | [a, b], [t, u] => (pAppend cx.P t u (ρ a) (ρ b) nid H).bind fun q => K q.1 q.2 (rdOf (ρ b)) (nid :: rdOf (ρ a))
      | _, _ => none
    | .builtin .copy => match c.args.toList, c.argTypes.toList with
      | [a, b], t :: _ => (pCopy cx.P t (ρ a) (ρ b) H).bind fun q => K q.1 q.2 (rdOf (ρ b)) (rdOf (ρ a))
      | _, _ => none
    | .builtin .min => match c.args.toList with
      | [a, b] => (min2 (ρ a) (ρ b)).bind fun v => K v H [] []
      | [a, b, d] => (min2 (ρ a) (ρ b)).bind fun v => (min2 v (ρ d)).bind fun v => K v H [] []
      | _ => none
    | .builtin .max => match c.args.toList with
      | [a, b] => (max2 (ρ a) (ρ b)).bind fun v => K v H [] []
      | [a, b, d] => (max2 (ρ a) (ρ b)).bind fun v => (max2 v (ρ d)).bind fun v => K v H [] []
      | _ => none
    | .value f => match ρ f with
      | .yld => (pYield cx.yield (c.args.toList.map ρ) H).bind fun r => K r.1 r.2 [outerId] [outerId]
      | vf => (fnOf vf).bind fun q =>
        (pCall cx.call fl q.1 (q.2.1 ++ c.args.toList.map ρ ++ q.2.2) H nid).bind fun r => K r.1 r.2.1 r.2.2.1 r.2.2.2
    | _ => none
  | _ => none

def astep (cx : Cx) (fl : Nat) (o : Oper) (ρ : Operand → AV) (nid : Nat) (H : Heap) (K : AV → Heap → List Nat → List Nat → Option R) : Option R :=
  match fl with
  | 3 => astep0 cx 3 o ρ nid H fun v H' rd wr => K (pFrz 0 v H').1 (pFrz 0 v H').2 rd (wr ++ touched H' [v])
  | _ => astep0 cx fl o ρ nid H K

def evalA (pos : List Nat) (fr : List AV) (loc : List (Nat × AV)) : Operand → AV
  | .tmp t => match loc.lookup t with
    | some v => v
    | none => match pos.idxOf? t with
      | some i => fr.getD i .undef
      | none => .undef
  | .const v => ofConst v
  | .func f => .fn f [] []
  | .global _ => .undef
def gd {S : Type} (v : AV) (want : Bool) (x : Option S) (d : S) : Option S :=
  match v with
  | .bool b => if b = want then x else some d
  | .tup [] => some d
  | _ => none
def bnd (o : Oper) (v : AV) (loc : List (Nat × AV)) : List (Nat × AV) :=
  match o.dst with
  | some d => (d, v) :: loc
  | none => loc
def flagOf (a : Ann) (rid i : Nat) : Nat := (a.flags.lookup (rid, i)).getD 0
def guardSlot (all : List Oper) (j : Nat) : Operand := match (all[j]?).bind (·.dst) with | some d => .tmp d | none => .const undef
abbrev Q4 := AV × Heap × List Nat × List Nat
/-- operations in the text's order -/
def aops (cx : Cx) (fr : List AV) (rid : Nat) (all : List Oper) (K : List (Nat × AV) → Heap → Option R) : List Oper → Nat → List (Nat × AV) → Heap → Option R
  | [], _, loc, H => K loc H
  | o :: rest, i, loc, H =>
    match o.guard with
    | none => astep cx (flagOf cx.ann rid i) o (evalA cx.ann.pos fr loc) H.next H fun v H' _ wr => fzQ v H' wr fun v H' => aops cx fr rid all K rest (i + 1) (bnd o v loc) H'
    | some (j, want) =>
      (gd (evalA cx.ann.pos fr loc (guardSlot all j)) want
        (astep cx (flagOf cx.ann rid i) o (evalA cx.ann.pos fr loc) H.next H fun v H' rd wr => some ((v, H', rd, wr) : Q4)) (.tup [], H, [], [])).bind fun q =>
          fzQ q.1 q.2.1 q.2.2.2 fun v H' => aops cx fr rid all K rest (i + 1) (bnd o v loc) H'
def disj (a b : List Nat) : Bool := a.all fun x => !b.contains x
/-- may the operation stand beside those done before it that no edge orders ahead of it -/
def okPair (bef : Nat) (rd wr : List Nat) (done : List (Nat × List Nat × List Nat)) : Bool :=
  done.all fun q => bef.testBit q.1 || (disj q.2.2 rd && disj q.2.2 wr && disj q.2.1 wr)
/-- a number worked out ahead -/
def force {S : Type} (n : Nat) (k : Nat → S) : S := match n with | 0 => k 0 | m + 1 => k (m + 1)
/-- which operations stand ahead of each (bits), as the edges order them -/
def befAt (acc : List Nat) (o : Oper) : Nat := o.after.toList.foldl (fun s e => if Region.binds .any e then s ||| (2 ^ e.on ||| acc.getD e.on 0) else s) 0
def befGo : List Oper → List Nat → List Nat
  | [], acc => acc
  | o :: r, acc => force (befAt acc o) fun v => befGo r (acc ++ [v])
def befs (ops : Array Oper) : List Nat := befGo ops.toList []
/-- one operation, guard and all, at its own numbers -/
def aopD (cx : Cx) (fr : List AV) (rid : Nat) (all : List Oper) (nid i : Nat) (o : Oper) (loc : List (Nat × AV)) (H : Heap) : Option Q4 :=
  match o.guard with
  | none => astep cx (flagOf cx.ann rid i) o (evalA cx.ann.pos fr loc) nid H fun v H' rd wr => some (v, H', rd, wr)
  | some (j, want) =>
    gd (evalA cx.ann.pos fr loc (guardSlot all j)) want
      (astep cx (flagOf cx.ann rid i) o (evalA cx.ann.pos fr loc) nid H fun v H' rd wr => some (v, H', rd, wr)) (.tup [], H, [], [])
def Heap.atLeast (H : Heap) (n : Nat) : Heap := { H with next := max H.next n }
def aopsD (cx : Cx) (fr : List AV) (rid : Nat) (all : List Oper) (bef : List Nat) (base : Nat) (K : List (Nat × AV) → Heap → Option R) :
    List Oper → Nat → List (Nat × AV) → Heap → List (Nat × List Nat × List Nat) → Option R
  | [], i, loc, H, _ => K loc (H.atLeast (base + 8 * i))
  | o :: rest, i, loc, H, done =>
    (aopD cx fr rid all (base + 8 * i) i o loc H).bind fun q =>
      if okPair (bef.getD i 0) q.2.2.1 q.2.2.2 done then fzQ q.1 q.2.1 q.2.2.2 fun v H' => aopsD cx fr rid all bef base K rest (i + 1) (bnd o v loc) H' ((i, q.2.2.1, q.2.2.2) :: done) else none
end

abbrev ARes := Option (AExit × List AV × Heap)

def expo (pos : List Nat) (fr : List AV) (loc : List (Nat × AV)) : List AV := (pos.zip fr).map fun q => (loc.lookup q.1).getD q.2
/-- slots of a region are written once, and read behind an edge -/
def okDraw (ops : Array Oper) (bef : List Nat) : Bool :=
  let l := ops.toList.zipIdx
  let ds := l.filterMap fun q => q.1.dst.map fun d => (d, q.2)
  (ds.map (·.1)).Nodup &&
  l.all fun q =>
    (q.1.after.toList.all fun e => !Region.binds .any e || e.on < q.2) &&
    (q.1.op.operands.toList.all fun x => match x with
      | .tmp t => ds.all fun d => d.1 != t || (d.2 < q.2 && (bef.getD q.2 0).testBit d.2) || (q.2 < d.2 && (bef.getD d.2 0).testBit q.2)
      | _ => true) &&
    (match q.1.guard with
      | none => true
      | some (j, _) => j < q.2 && (bef.getD q.2 0).testBit j && ((ops[j]?).bind (·.dst)).isSome)
def frzEls (nL : Nat) : List AV → Heap → List AV × Heap
  | [], H => ([], H)
  | e :: r, H => ((pFrz nL e H).1 :: (frzEls nL r (pFrz nL e H).2).1, (frzEls nL r (pFrz nL e H).2).2)
/-- the elements of a live row frozen, where they lie -/
def frzRow (nL : Nat) (v : AV) (H : Heap) : Heap :=
  match v with
  | .hs b _ => match H.get b with
    | some (.sl g' 1 _ es) =>
      if ((frzEls nL es H).2.get b).isSome && !es.isEmpty && es.all AV.one && (frzEls nL es H).1.all AV.one then (frzEls nL es H).2.put b (.sl g' 1 (AV.refFreeL (frzEls nL es H).1) (frzEls nL es H).1) else H
    | _ => H
  | _ => H
/-- a slot's value frozen, ahead of a region; from 1000000 on: the elements of its row -/
def frzSlot (nL : Nat) (pos : List Nat) (fr : List AV) (H : Heap) (t : Nat) : List AV × Heap :=
  if 1000000 ≤ t then
    match pos.idxOf? (t - 1000000) with
    | some i => (fr, frzRow nL (fr.getD i .undef) H)
    | none => (fr, H)
  else
  match pos.idxOf? t with
  | some i => (fr.set i (pFrz nL (fr.getD i .undef) H).1, (pFrz nL (fr.getD i .undef) H).2)
  | none => (fr, H)
def frzSlots (nL : Nat) (pos : List Nat) : List Nat → List AV → Heap → List AV × Heap
  | [], fr, H => (fr, H)
  | t :: r, fr, H => frzSlots nL pos r (frzSlot nL pos fr H t).1 (frzSlot nL pos fr H t).2
def aregion0 (cx : Cx) (rid : Nat) (ops : Array Oper) (draw : Bool) (fr : List AV) (H : Heap) : ARes :=
  if draw then
    aopsD { cx with yield := none } fr rid ops.toList (befs ops) H.next (fun loc H' => fzL (expo cx.ann.pos fr loc) fun fr' => some (.normal, fr', H')) ops.toList 0 [] H []
  else aops cx fr rid ops.toList (fun loc H' => fzL (expo cx.ann.pos fr loc) fun fr' => some (.normal, fr', H')) ops.toList 0 [] H

def aregion (cx : Cx) (rid : Nat) (ops : Array Oper) (draw : Bool) (fr : List AV) (H : Heap) : ARes :=
  match cx.ann.pre.lookup rid with
  | some l => aregion0 cx rid ops draw (frzSlots cx.nL cx.ann.pos l fr H).1 (frzSlots cx.nL cx.ann.pos l fr H).2
  | none => aregion0 cx rid ops draw fr H

def seqX (f g : List AV → Heap → ARes) (fr : List AV) (H : Heap) : ARes :=
  match f fr H with
  | some (.normal, fr', H') => g fr' H'
  | r => r
def condX (c : AV) (f g : List AV → Heap → ARes) (fr : List AV) (H : Heap) : ARes :=
  match c with
  | .bool b => if b then f fr H else g fr H
  | _ => none
def blockX (id : Nat) (f : List AV → Heap → ARes) (fr : List AV) (H : Heap) : ARes :=
  match f fr H with
  | some (.exit i, fr', H') => if i = id then some (.normal, fr', H') else some (.exit i, fr', H')
  | r => r
def fzP {R : Type} (q : List AV × Heap) (k : List AV → Heap → R) : R := match q with | (fr, H) => fzL fr fun fr => fzH H fun H => k fr H
theorem fzP_eq {R : Type} (q : List AV × Heap) (k : List AV → Heap → R) : fzP q k = k q.1 q.2 := by cases q; simp only [fzP, fzL_eq, fzH_eq]
def loopX (body : List AV → Heap → ARes) (gc : Bool) (nL : Nat) (keep : List Bool) : Nat → List AV → Heap → ARes
  | 0, _, _ => none
  | k + 1, fr, H =>
    match fzP (canon gc nL keep fr H) body with
    | some (.normal, fr', H') => loopX body gc nL keep k fr' H'
    | r => r
def setParams (pos : List Nat) (params : List Nat) (args : List AV) (fr : List AV) : List AV := expo pos fr (params.zip args)
/-- a round: the assignments, the body; what leaves it waits -/
def roundX (asg body : List AV → Heap → ARes) (pos params : List Nat) (fr : List AV) : YFn := fun args outer =>
  match outer with
  | ⟨nx, bs, none⟩ :: rest =>
    if params.length = args.length then
      match asg (setParams pos params args fr) ⟨nx, bs, rest⟩ with
      | some (.normal, fr2, H2) =>
        match body fr2 H2 with
        | some (.normal, _, H3) => some (true, ⟨H3.next, H3.bs, none⟩ :: H3.outer)
        | some (e, _, H3) => some (false, ⟨H3.next, H3.bs, some e⟩ :: H3.outer)
        | none => none
      | _ => none
    else none
  | _ => none
def rangeX (callY : YFn → FuncId → List AV → List OSt → Option (AV × List OSt)) (f : AV) (Y : YFn) (fr : List AV) (H : Heap) : ARes :=
  (fnOf f).bind fun q =>
    if AV.refFreeL q.2.1 && AV.refFreeL q.2.2 then
      match callY Y q.1 (q.2.1 ++ [.yld] ++ q.2.2) (⟨H.next, H.bs, none⟩ :: H.outer) with
      | some (_, ⟨nx, bs, none⟩ :: rest) => some (.normal, fr, ⟨nx, bs, rest⟩)
      | some (_, ⟨nx, bs, some e⟩ :: rest) => some (e, fr, ⟨nx, bs, rest⟩)
      | _ => none
    else none
def firstRegion : Code → Nat
  | .region id _ _ => id
  | .seq a _ => firstRegion a
  | .block _ c | .loop c | .scope c => firstRegion c
  | .cond _ a _ => firstRegion a
  | _ => 0
def keepOf (a : Ann) (key : Nat) : List Bool := a.pos.map ((a.loops.lookup key).getD []).contains

def arun (cx : Cx) : Code → List AV → Heap → ARes
  | .skip, fr, H | .label _, fr, H => some (.normal, fr, H)
  | .scope c, fr, H => arun cx c fr H
  | .seq a b, fr, H => seqX (arun cx a) (arun cx b) fr H
  | .cond c a b, fr, H => condX (evalA cx.ann.pos fr [] c) (arun cx a) (arun cx b) fr H
  | .block id c, fr, H => blockX id (arun cx c) fr H
  | .loop c, fr, H => loopX (arun cx c) cx.gc cx.nL (keepOf cx.ann (firstRegion c)) cx.k fr H
  | .exit id, fr, H => some (.exit id, fr, H)
  | .ret, fr, H => some (.ret, fr, H)
  | .region id ops d, fr, H => aregion cx id ops d fr H
  | .rangeFunc f params asg body, fr, H =>
    if cx.yield.isSome || !cx.gc then none else
    rangeX cx.callY (evalA cx.ann.pos fr [] f) (roundX (arun { cx with gc := false } asg) (arun { cx with gc := false } body) cx.ann.pos params.toList fr) fr H
  | _, _, _ => none

def aresult (P : Program) (pos : List Nat) (fr : List AV) (H : Heap) : ResultVar → Option AV
  | .tmp t => some (evalA pos fr [] (.tmp t))
  | .cell a t => pLoad P t (evalA pos fr [] (.tmp a)) H
def mapO {α β : Type} (f : α → Option β) : List α → Option (List β)
  | [] => some []
  | x :: r => (f x).bind fun y => (mapO f r).map (y :: ·)
def oneOf : List AV → AV
  | [v] => v
  | l => .tup l
/-- what a call hands back: the value, the lent blocks, what is new behind them -/
def aret (frzd : Bool) (nL : Nat) (v : AV) (H : Heap) : Option (AV × List ABlk) :=
  let q := if frzd then pFrz nL v H else (v, H)
  if nL = 0 && q.1.refFree then some (q.1, [])
  else
    let roots := (List.range nL).map fun i => AV.hp i 0
    let order := List.range nL ++ (reached q.2 (roots ++ [q.1])).filter (nL ≤ ·)
    if packOk q.2 order keepGen then some (q.1.ren (toIdx q.2 order keepGen), pack q.2 order keepGen) else none

/-- what is to be seen of a body before it runs: slots in range, drawn regions well-ordered -/
def okCode (nt : Nat) : Code → Bool
  | .skip | .label _ | .exit _ | .ret | .goto _ | .refuse _ => true
  | .scope c | .block _ c | .loop c => okCode nt c
  | .seq a b | .cond _ a b => okCode nt a && okCode nt b
  | .region _ ops d => (ops.toList.all fun o => match o.dst with | some t => t < nt | none => true) && (!d || okDraw ops (befs ops))
  | .rangeFunc _ ps asg body => ps.toList.all (· < nt) && decide ps.toList.Nodup && okCode nt asg && okCode nt body
/-- the program's own functions, seen so -/
def okFunc (fn : Func) : Bool := fn.name != "runtime.NumGoroutine" && match fn.body with | some c => okCode fn.ntmps c | none => true
/-- a body run: the value, the lent blocks, the outer calls -/
def abody (cx : Cx) (fn : Func) (args : List AV) (L : List ABlk) (outer : List OSt) : Option (AV × List ABlk × List OSt) :=
  match fn.body with
  | some c =>
    if !(args.length ≤ fn.ntmps) then none else
    match fzP (cx.ann.pos.map fun t => args.getD t .undef, { heapOf L with outer := outer }) (arun cx c) with
    | some (.exit _, _, _) | none => none
    | some (_, fr, H) => (mapO (aresult cx.P cx.ann.pos fr H) fn.results.toList).bind fun vs =>
        (aret cx.ann.frz L.length (oneOf vs) H).map fun r => (r.1, r.2, H.outer)
  | none => none
def acallG (P : Program) (A : FuncId → Ann) (hook : CallFn) : Nat → Option YFn → FuncId → List AV → List ABlk → List OSt → Option (AV × List ABlk × List OSt)
  | 0, _, _, _, _, _ => none
  | k + 1, y, f, args, L, outer =>
    (P.funcs[f]?).bind fun fn =>
      abody ⟨P, fun f args L => (hook f args L).orElse fun _ => (acallG P A hook k none f args L []).bind fun r => if r.2.2.isEmpty then some (r.1, r.2.1) else none,
        fun Y f args outer => (acallG P A hook k (some Y) f args [] outer).bind fun r => if r.2.1.isEmpty then some (r.1, r.2.2) else none, y, true, L.length, A f, k⟩ fn args L outer
def acall (P : Program) (A : FuncId → Ann) (hook : CallFn) (k : Nat) : CallFn := fun f args L =>
  (hook f args L).orElse fun _ => (acallG P A hook k none f args L []).bind fun r => if r.2.2.isEmpty then some (r.1, r.2.1) else none
end Go.Am
namespace Go.Am

namespace AV
theorem renL_map (f : Nat → Nat → Option (Nat × Nat)) : ∀ l : List AV, renL f l = l.map (ren f)
  | [] => rfl
  | x :: r => by simp [renL, renL_map f r]
theorem refFreeL_all : ∀ l : List AV, refFreeL l = l.all refFree
  | [] => rfl
  | x :: r => by simp [refFreeL, refFreeL_all r]
theorem refFreeL_iff {l : List AV} : refFreeL l = true ↔ ∀ x ∈ l, x.refFree = true := by
  rw [refFreeL_all]; simp
mutual
theorem ren_free (f : Nat → Nat → Option (Nat × Nat)) : ∀ v : AV, v.refFree = true → v.ren f = v
  | .undef, _ | .bool _, _ | .int _ _, _ | .str _, _ | .nilp, _ | .nils, _ | .nilm, _ | .nilf, _ | .vs _, _ | .es0, _ | .en, _ | .ip _ _, _ | .fm _ _, _ => by simp [ren]
  | .agg cs, h => by simp only [ren]; rw [renL_free f cs (by simpa [refFree] using h)]
  | .tup cs, h => by simp only [ren]; rw [renL_free f cs (by simpa [refFree] using h)]
  | .fn g a b, h => by
    have h : refFreeL a = true ∧ refFreeL b = true := by simpa [refFree] using h
    simp only [ren]; rw [renL_free f a h.1, renL_free f b h.2]
  | .hp _ _, h | .hs _ _, h | .hq _ _ _ _, h | .he _ _ _ _, h | .hm _, h | .yld, h => by simp [refFree] at h
theorem renL_free (f : Nat → Nat → Option (Nat × Nat)) : ∀ l : List AV, refFreeL l = true → renL f l = l
  | [], _ => rfl
  | x :: r, h => by
    have h : refFree x = true ∧ refFreeL r = true := by simpa [refFreeL] using h
    simp only [renL]; rw [ren_free f x h.1, renL_free f r h.2]
end
theorem refFree_cells {e : AV} (h : e.refFree = true) : ∀ c ∈ e.cells, c.refFree = true := by
  cases e <;> simp_all [cells, refFree, refFreeL_iff]
theorem okElem_free {e : AV} (h : e.okElem = true) : e.refFree = true := by simp [okElem] at h; exact h.1
theorem okElem_one {e : AV} (h : e.okElem = true) : ∀ c ∈ e.cells, c.one = true := by simp [okElem] at h; exact h.2
end AV

def bsz (w : World) (B : Nat) : Nat := match w.heap[B]? with | some (.cells c _ _) => c.size | _ => 0

structure Gh where
  w : World
  F : Nat → Prop
  ι : Nat → Option Nat
  A : Nat → Nat → Prop
  H : Heap
  yl : Option Nat

def Gh.M (G : Gh) (B : Nat) : Prop := G.F B ∨ ∃ b x, G.H.get b = some x ∧ G.ι b = some B

inductive VRel (G : Gh) : AV → Value → Prop
  | undef (v : Value) : VRel G .undef v
  | bool (b : Bool) : VRel G (.bool b) (.bool b)
  | int (k : IntKind) (n : Int) : VRel G (.int k n) (.int k n)
  | str (s : ByteArray) : VRel G (.str s) (.string s)
  | nilp : VRel G .nilp (.pointer none)
  | nils : VRel G .nils (.slice none 0 0)
  | nilm : VRel G .nilm (.map none)
  | nilf : VRel G .nilf .nilFunc
  | agg (cs : List AV) (vs : Array Value) (hl : cs.length = vs.size) (h : ∀ (i : Nat) c v, cs[i]? = some c → vs[i]? = some v → VRel G c v) : VRel G (.agg cs) (.agg vs)
  | tup (cs : List AV) (vs : Array Value) (hl : cs.length = vs.size) (h : ∀ (i : Nat) c v, cs[i]? = some c → vs[i]? = some v → VRel G c v) : VRel G (.tup cs) (.tuple vs)
  | fn (f : FuncId) (a b : List AV) (fs cs : Array Value) (hl : a.length = fs.size) (hl' : b.length = cs.size)
      (h : ∀ (i : Nat) c v, a[i]? = some c → fs[i]? = some v → VRel G c v) (h' : ∀ (i : Nat) c v, b[i]? = some c → cs[i]? = some v → VRel G c v) : VRel G (.fn f a b) (.func (.func f) fs cs)
  | vs (es : List AV) (a : Option Addr) (cap : Nat) (B off sz : Nat) (cv : Nat → Nat → Value) (hcap : es.length ≤ cap)
      (ha : es.length = 0 ∨ (a = some ⟨B, off, none⟩ ∧ ¬ G.M B ∧ B < G.w.heap.size))
      (hok : ∀ (i : Nat) e, es[i]? = some e → e.okElem = true ∧ e.cells.length = sz)
      (hc : ∀ (i : Nat) e (j : Nat) c, es[i]? = some e → e.cells[j]? = some c → G.w.cell? ⟨B, off + i * sz + j, none⟩ = some (cv i j))
      (hr : ∀ (i : Nat) e (j : Nat) c, es[i]? = some e → e.cells[j]? = some c → VRel G c (cv i j)) : VRel G (.vs es) (.slice a es.length cap)
  | es0 (a : Option Addr) : VRel G .es0 (.slice a 0 0)
  | en (a : Addr) (cap : Nat) : VRel G .en (.slice (some a) 0 cap)
  | ip (cs : List AV) (off B o : Nat) (cv : Nat → Value) (hM : ¬ G.M B) (hB : B < G.w.heap.size) (hok : AV.refFreeL cs = true)
      (hc : ∀ (j : Nat) c, cs[j]? = some c → G.w.cell? ⟨B, o + j, none⟩ = some (cv j)) (hr : ∀ (j : Nat) c, cs[j]? = some c → VRel G c (cv j)) :
      VRel G (.ip cs off) (.pointer (some ⟨B, o + off, none⟩))
  | fm (ks vs : List AV) (r : Nat) (es : Array MapEntry) (clock : Nat) (hM : ¬ G.M r) (hB : r < G.w.heap.size) (hw : G.w.heap[r]? = some (.map es clock))
      (hk : ks.length = es.size) (hv : vs.length = es.size) (hok : AV.refFreeL ks = true) (hok' : AV.refFreeL vs = true)
      (h : ∀ (i : Nat) k e, ks[i]? = some k → es[i]? = some e → VRel G k e.key) (h' : ∀ (i : Nat) v e, vs[i]? = some v → es[i]? = some e → VRel G v e.val) : VRel G (.fm ks vs) (.map (some r))
  | hp (b off : Nat) (v : Value) (hb : G.A b 0) (h1 : v.oneCell' = true)
      (h : ∀ cs, G.H.get b = some (.cells cs) → ∃ B, G.ι b = some B ∧ v = .pointer (some ⟨B, off, none⟩)) : VRel G (.hp b off) v
  | hs (b g : Nat) (v : Value) (hb : G.A b g) (h1 : v.oneCell' = true)
      (h : ∀ sz p es, G.H.get b = some (.sl g sz p es) → ∃ a cap, v = .slice a es.length cap ∧ es.length ≤ cap ∧
        ((G.ι b = none ∧ a = none ∧ cap = 0) ∨ (∃ B, G.ι b = some B ∧ a = some ⟨B, 0, none⟩ ∧ cap * sz ≤ bsz G.w B))) : VRel G (.hs b g) v
  | hq (b g o n : Nat) (v : Value) (hb : G.A b g) (h1 : v.oneCell' = true)
      (h : ∀ sz p es, G.H.get b = some (.sl g sz p es) → o + n ≤ es.length → ∃ a cap, v = .slice a n cap ∧ n ≤ cap ∧
        ((n = 0 ∧ o ≠ 0) ∨ (G.ι b = none ∧ a = none ∧ cap = 0 ∧ o = 0) ∨ (∃ B, G.ι b = some B ∧ a = some ⟨B, o * sz, none⟩ ∧ (o + cap) * sz ≤ bsz G.w B))) : VRel G (.hq b g o n) v
  | he (b g i off : Nat) (v : Value) (hb : G.A b g) (h1 : v.oneCell' = true)
      (h : ∀ sz p es, G.H.get b = some (.sl g sz p es) → i < es.length → ∃ B, G.ι b = some B ∧ v = .pointer (some ⟨B, i * sz + off, none⟩)) : VRel G (.he b g i off) v
  | hm (b : Nat) (v : Value) (hb : G.A b 0) (h1 : v.oneCell' = true)
      (h : ∀ ks vs, G.H.get b = some (.map ks vs) → ∃ B, G.ι b = some B ∧ v = .map (some B)) : VRel G (.hm b) v
  | yld (l : Nat) (h : G.yl = some l) : VRel G .yld (.func (.yield l) #[] #[])

theorem VRel.one {G : Gh} {a : AV} {v : Value} (h : VRel G a v) (ho : a.one = true) : v.oneCell' = true := by
  cases h <;> simp_all [AV.one, Value.oneCell']

/-- what a renaming asks of two states -/
structure RenOk (G G2 : Gh) (f : Nat → Nat → Option (Nat × Nat)) : Prop where
  size : G.w.heap.size ≤ G2.w.heap.size
  still : ∀ B, B < G.w.heap.size → ¬ G.M B → ¬ G2.M B ∧ G2.w.heap[B]? = G.w.heap[B]?
  next : ∀ b g b' g', G.A b g → f b g = some (b', g') → G2.A b' g'
  cells : ∀ b b' g' cs', G.A b 0 → f b 0 = some (b', g') → G2.H.get b' = some (.cells cs') → ∃ cs, G.H.get b = some (.cells cs) ∧ G2.ι b' = G.ι b
  rows : ∀ b g b' g' sz p es', G.A b g → f b g = some (b', g') → G2.H.get b' = some (.sl g' sz p es') →
    ∃ p0 es, G.H.get b = some (.sl g sz p0 es) ∧ es.length = es'.length ∧ G2.ι b' = G.ι b ∧ ∀ B, G.ι b = some B → bsz G.w B ≤ bsz G2.w B
  maps : ∀ b b' g' ks vs, G.A b 0 → f b 0 = some (b', g') → G2.H.get b' = some (.map ks vs) → ∃ ks0 vs0, G.H.get b = some (.map ks0 vs0) ∧ G2.ι b' = G.ι b
  yl : G.yl = none ∨ G2.yl = G.yl
  zero : ∀ b b' g', G.A b 0 → f b 0 = some (b', g') → G2.A b' g' → G2.A b' 0

theorem cell_same {w w' : World} {B o : Nat} (h : w'.heap[B]? = w.heap[B]?) : w'.cell? ⟨B, o, none⟩ = w.cell? ⟨B, o, none⟩ := by
  simp only [World.cell?]; rw [h]

theorem VRel.ren {G G2 : Gh} {f : Nat → Nat → Option (Nat × Nat)} (hf : RenOk G G2 f) {a : AV} {v : Value} (h : VRel G a v) : VRel G2 (a.ren f) v := by
  induction h with
  | undef v => exact .undef v
  | bool b => exact .bool b
  | int k n => exact .int k n
  | str s => exact .str s
  | nilp => exact .nilp
  | nils => exact .nils
  | nilm => exact .nilm
  | nilf => exact .nilf
  | agg cs vs hl h ih =>
    simp only [AV.ren, AV.renL_map]
    refine .agg _ _ (by simpa using hl) fun i c v hc hv => ?_
    simp only [List.getElem?_map, Option.map_eq_some_iff] at hc
    obtain ⟨c0, hc0, rfl⟩ := hc
    exact ih i c0 v hc0 hv
  | tup cs vs hl h ih =>
    simp only [AV.ren, AV.renL_map]
    refine .tup _ _ (by simpa using hl) fun i c v hc hv => ?_
    simp only [List.getElem?_map, Option.map_eq_some_iff] at hc
    obtain ⟨c0, hc0, rfl⟩ := hc
    exact ih i c0 v hc0 hv
  | fn g a b fs cs hl hl' h h' ih ih' =>
    simp only [AV.ren, AV.renL_map]
    refine .fn _ _ _ _ _ (by simpa using hl) (by simpa using hl') (fun i c v hc hv => ?_) (fun i c v hc hv => ?_)
    · simp only [List.getElem?_map, Option.map_eq_some_iff] at hc
      obtain ⟨c0, hc0, rfl⟩ := hc
      exact ih i c0 v hc0 hv
    · simp only [List.getElem?_map, Option.map_eq_some_iff] at hc
      obtain ⟨c0, hc0, rfl⟩ := hc
      exact ih' i c0 v hc0 hv
  | vs es a cap B off sz cv hcap ha hok hc hr ih =>
    rcases ha with ha | ⟨rfl, hM, hB⟩
    · have : es = [] := by simpa using ha
      subst this
      exact .vs [] a cap B off sz cv hcap (.inl rfl) (by simp) (by simp) (by simp)
    · refine .vs es _ cap B off sz cv hcap (.inr ⟨rfl, (hf.still B hB hM).1, Nat.lt_of_lt_of_le hB hf.size⟩) hok (fun i e j c h1 h2 => ?_) (fun i e j c h1 h2 => ?_)
      · rw [cell_same (hf.still B hB hM).2]; exact hc i e j c h1 h2
      · have := ih i e j c h1 h2
        rwa [AV.ren_free f c (AV.refFree_cells (AV.okElem_free (hok i e h1).1) c (List.mem_of_getElem? h2))] at this
  | es0 a => exact .es0 a
  | en a cap => exact .en a cap
  | ip cs off B o cv hM hB hok hc hr ih =>
    refine .ip cs off B o cv (hf.still B hB hM).1 (Nat.lt_of_lt_of_le hB hf.size) hok (fun j c h => ?_) (fun j c h => ?_)
    · rw [cell_same (hf.still B hB hM).2]; exact hc j c h
    · have := ih j c h
      rwa [AV.ren_free f c (AV.refFreeL_iff.1 hok c (List.mem_of_getElem? h))] at this
  | fm ks vs r es clock hM hB hw hk hv hok hok' h h' ih ih' =>
    refine .fm ks vs r es clock (hf.still r hB hM).1 (Nat.lt_of_lt_of_le hB hf.size) ((hf.still r hB hM).2.trans hw) hk hv hok hok' (fun i k e h1 h2 => ?_) (fun i k e h1 h2 => ?_)
    · have := ih i k e h1 h2
      rwa [AV.ren_free f k (AV.refFreeL_iff.1 hok k (List.mem_of_getElem? h1))] at this
    · have := ih' i k e h1 h2
      rwa [AV.ren_free f k (AV.refFreeL_iff.1 hok' k (List.mem_of_getElem? h1))] at this
  | hp b off v hb h1 h =>
    simp only [AV.ren]
    cases hfb : f b 0 with
    | none => exact .undef v
    | some q =>
      obtain ⟨b', g'⟩ := q
      refine .hp b' off v (hf.zero _ _ _ hb hfb (hf.next _ _ _ _ hb hfb)) h1 fun cs hcs => ?_
      obtain ⟨cs0, h0, hi⟩ := hf.cells _ _ _ _ hb hfb hcs
      rw [hi]; exact h cs0 h0
  | hs b g v hb h1 h =>
    simp only [AV.ren]
    cases hfb : f b g with
    | none => exact .undef v
    | some q =>
      obtain ⟨b', g'⟩ := q
      refine .hs b' g' v (hf.next _ _ _ _ hb hfb) h1 fun sz p es hes => ?_
      obtain ⟨p0, es0, h0, hl, hi, hb⟩ := hf.rows _ _ _ _ _ _ _ hb hfb hes
      obtain ⟨a, cap, rfl, hcap, hrest⟩ := h sz p0 es0 h0
      refine ⟨a, cap, by rw [hl], by omega, ?_⟩
      rw [hi]
      rcases hrest with hr | ⟨B, h2, h3, h4⟩
      · exact .inl hr
      · exact .inr ⟨B, h2, h3, Nat.le_trans h4 (hb B h2)⟩
  | hq b g o n v hb h1 h =>
    simp only [AV.ren]
    cases hfb : f b g with
    | none => exact .undef v
    | some q =>
      obtain ⟨b', g'⟩ := q
      refine .hq b' g' o n v (hf.next _ _ _ _ hb hfb) h1 fun sz p es hes hon => ?_
      obtain ⟨p0, es0, h0, hl, hi, hb⟩ := hf.rows _ _ _ _ _ _ _ hb hfb hes
      obtain ⟨a, cap, rfl, hcap, hrest⟩ := h sz p0 es0 h0 (by omega)
      refine ⟨a, cap, rfl, by omega, ?_⟩
      rw [hi]
      rcases hrest with hr | hr | ⟨B, h2, h3, h4⟩
      · exact .inl hr
      · exact .inr (.inl hr)
      · exact .inr (.inr ⟨B, h2, h3, Nat.le_trans h4 (hb B h2)⟩)
  | he b g i off v hb h1 h =>
    simp only [AV.ren]
    cases hfb : f b g with
    | none => exact .undef v
    | some q =>
      obtain ⟨b', g'⟩ := q
      refine .he b' g' i off v (hf.next _ _ _ _ hb hfb) h1 fun sz p es hes hi' => ?_
      obtain ⟨p0, es0, h0, hl, hi, hb⟩ := hf.rows _ _ _ _ _ _ _ hb hfb hes
      rw [hi]; exact h sz p0 es0 h0 (by omega)
  | hm b v hb h1 h =>
    simp only [AV.ren]
    cases hfb : f b 0 with
    | none => exact .undef v
    | some q =>
      obtain ⟨b', g'⟩ := q
      refine .hm b' v (hf.zero _ _ _ hb hfb (hf.next _ _ _ _ hb hfb)) h1 fun ks vs hm => ?_
      obtain ⟨k0, v0, h0, hi⟩ := hf.maps _ _ _ _ _ hb hfb hm
      rw [hi]; exact h k0 v0 h0
  | yld l h =>
    rcases hf.yl with hn | hy
    · rw [hn] at h; cases h
    · exact .yld l (hy.trans h)

/-! ### the same places -/
def idf : Nat → Nat → Option (Nat × Nat) := fun b g => some (b, g)
mutual
theorem ren_idf : ∀ v : AV, v.ren idf = v
  | .undef | .bool _ | .int _ _ | .str _ | .nilp | .nils | .nilm | .nilf | .vs _ | .es0 | .en | .ip _ _ | .fm _ _ | .hp _ _ | .hs _ _ | .hq _ _ _ _ | .he _ _ _ _ | .hm _ | .yld => by simp [AV.ren, idf]
  | .agg cs | .tup cs => by simp only [AV.ren]; rw [renL_idf cs]
  | .fn g a b => by simp only [AV.ren]; rw [renL_idf a, renL_idf b]
theorem renL_idf : ∀ l : List AV, AV.renL idf l = l
  | [] => rfl
  | x :: r => by simp only [AV.renL]; rw [ren_idf x, renL_idf r]
end
abbrev Ext (G G2 : Gh) : Prop := RenOk G G2 idf
theorem VRel.ext {G G2 : Gh} (h : Ext G G2) {a : AV} {v : Value} (hv : VRel G a v) : VRel G2 a v := by
  have := hv.ren h
  rwa [ren_idf] at this

/-- what a block says -/
def CellsRel (G : Gh) (cs : List AV) (B : Nat) : Prop :=
  ∃ c e, G.w.heap[B]? = some (.cells c e (0, 0)) ∧ c.size = cs.length ∧ ∀ (j : Nat) x v, cs[j]? = some x → c[j]? = some v → VRel G x v
def RowRel (G : Gh) (sz : Nat) (p : Bool) (es : List AV) (B : Nat) : Prop :=
  ∃ c e, G.w.heap[B]? = some (.cells c e (0, 0)) ∧ es.length * sz ≤ c.size ∧
    ∀ (i : Nat) x (j : Nat) y v, es[i]? = some x → x.cells[j]? = some y → c[i * sz + j]? = some v → VRel G y v
def MapRel (G : Gh) (ks vs : List AV) (B : Nat) : Prop :=
  ∃ es clock, G.w.heap[B]? = some (.map es clock) ∧ ks.length = es.size ∧ vs.length = es.size ∧
    (∀ (i : Nat) k e, ks[i]? = some k → es[i]? = some e → VRel G k e.key) ∧ (∀ (i : Nat) v e, vs[i]? = some v → es[i]? = some e → VRel G v e.val)
def RowOk (sz : Nat) (p : Bool) (es : List AV) : Prop :=
  0 < sz ∧ ∀ (i : Nat) x, es[i]? = some x → x.cells.length = sz ∧ (∀ c ∈ x.cells, c.one = true) ∧ (p = true → x.refFree = true)
def BlkRel (G : Gh) (b : Nat) : ABlk → Prop
  | .cells cs => ∃ B, G.ι b = some B ∧ B < G.w.heap.size ∧ ¬ G.F B ∧ CellsRel G cs B
  | .sl _ sz p es => RowOk sz p es ∧ ((G.ι b = none ∧ es = []) ∨ ∃ B, G.ι b = some B ∧ B < G.w.heap.size ∧ ¬ G.F B ∧ RowRel G sz p es B)
  | .map ks vs => ∃ B, G.ι b = some B ∧ B < G.w.heap.size ∧ ¬ G.F B ∧ MapRel G ks vs B

structure StRel (G : Gh) : Prop where
  next : ∀ b g, G.A b g → b < G.H.next
  here : ∀ b x, G.H.get b = some x → G.A b x.gen
  gen : ∀ b g sz p es g', G.H.get b = some (.sl g sz p es) → G.A b g' → g' ≤ g
  blk : ∀ b x, G.H.get b = some x → BlkRel G b x
  inj : ∀ b b' x x' B, G.H.get b = some x → G.H.get b' = some x' → G.ι b = some B → G.ι b' = some B → b = b'
  low : ∀ B, G.F B → B < G.w.heap.size

theorem StRel.live {G : Gh} (h : StRel G) {b : Nat} {x : ABlk} {B : Nat} (hb : G.H.get b = some x) (hi : G.ι b = some B) : B < G.w.heap.size ∧ ¬ G.F B := by
  have := h.blk b x hb
  cases x with
  | cells cs => obtain ⟨B', h1, h2, h3, _⟩ := this; rw [hi] at h1; cases h1; exact ⟨h2, h3⟩
  | sl g sz p es =>
    obtain ⟨_, h | ⟨B', h1, h2, h3, _⟩⟩ := this
    · rw [hi] at h; cases h.1
    · rw [hi] at h1; cases h1; exact ⟨h2, h3⟩
  | map ks vs => obtain ⟨B', h1, h2, h3, _⟩ := this; rw [hi] at h1; cases h1; exact ⟨h2, h3⟩
end Go.Am
namespace Go.Am
section mem
variable {P : Program}
def setObj (w : World) (B : Nat) (o : Obj) : World := { w with heap := w.heap.setIfInBounds B o }
theorem heap_setObj (w : World) (B b : Nat) (o : Obj) : (setObj w B o).heap[b]? = if b = B ∧ B < w.heap.size then some o else w.heap[b]? := by
  simp only [setObj, Array.getElem?_setIfInBounds]
  by_cases h : B = b
  · subst h; by_cases h2 : B < w.heap.size
    · simp [h2]
    · simp [h2]
  · rw [if_neg h, if_neg (by rintro ⟨rfl, _⟩; exact h rfl)]
theorem size_setObj (w : World) (B : Nat) (o : Obj) : (setObj w B o).heap.size = w.heap.size := by simp [setObj]
theorem setObj_twice (w : World) (B : Nat) (o o' : Obj) : setObj (setObj w B o) B o' = setObj w B o' := by simp [setObj]
theorem lt_of_heap {w : World} {B : Nat} {o : Obj} (h : w.heap[B]? = some o) : B < w.heap.size := (Array.getElem?_eq_some_iff.1 h).1
theorem heap_setObj_self {w : World} {B : Nat} (o : Obj) (h : B < w.heap.size) : (setObj w B o).heap[B]? = some o := by rw [heap_setObj, if_pos ⟨rfl, h⟩]
theorem heap_setObj_ne {w : World} {B b : Nat} (o : Obj) (h : b ≠ B) : (setObj w B o).heap[b]? = w.heap[b]? := by rw [heap_setObj, if_neg (by simp [h])]

theorem cell_of {w : World} {B : Nat} {c : Array Value} {e : TypeId} {fz : Nat × Nat} (h : w.heap[B]? = some (.cells c e fz)) (o : Nat) : w.cell? ⟨B, o, none⟩ = c[o]? := by
  simp [World.cell?, h]
theorem frozen_of {w : World} {B : Nat} {c : Array Value} {e : TypeId} (h : w.heap[B]? = some (.cells c e (0, 0))) (o : Nat) : w.frozen? ⟨B, o, none⟩ = false := by
  simp [World.frozen?, h]
theorem add_none (B o n : Nat) : (⟨B, o, none⟩ : Addr).add n = ⟨B, o + n, none⟩ := by
  unfold Addr.add; split
  · subst_vars; rfl
  · rfl

theorem loadCellsFrom_run {w : World} {B off : Nat} {vs : List Value} (h : ∀ j v, vs[j]? = some v → w.cell? ⟨B, off + j, none⟩ = some v) :
    ∀ (n i : Nat) (acc : Array Value), i + n ≤ vs.length → (loadCellsFrom ⟨B, off, none⟩ i n acc).run P w = .ok (acc ++ ((vs.drop i).take n).toArray) w
  | 0, i, acc, hn => by simp [loadCellsFrom]
  | n + 1, i, acc, hn => by
    have hlt : i < vs.length := by omega
    have hc : w.cell? ⟨B, off + i, none⟩ = some vs[i] := h i _ (List.getElem?_eq_getElem hlt)
    simp only [loadCellsFrom, Sem.run_bind, run_load, add_none, hc, Result.andThen_ok]
    rw [loadCellsFrom_run h n (i + 1) _ (by omega)]
    congr 1
    rw [List.drop_eq_getElem_cons hlt, List.take_succ_cons]
    simp
theorem loadCells_run {w : World} {B off : Nat} {vs : List Value} (h : ∀ j v, vs[j]? = some v → w.cell? ⟨B, off + j, none⟩ = some v) :
    (loadCells ⟨B, off, none⟩ vs.length).run P w = .ok vs.toArray w := by
  rw [loadCells, loadCellsFrom_run h vs.length 0 #[] (by omega)]; simp

def spliceV (c : List Value) (off : Nat) (vs : List Value) : List Value := c.take off ++ vs ++ c.drop (off + vs.length)
theorem spliceV_length {c vs : List Value} {off : Nat} (h : off + vs.length ≤ c.length) : (spliceV c off vs).length = c.length := by
  simp [spliceV]; omega
theorem spliceV_get {c vs : List Value} {off : Nat} (h : off + vs.length ≤ c.length) (j : Nat) : (spliceV c off vs)[j]? = if off ≤ j ∧ j < off + vs.length then vs[j - off]? else c[j]? := by
  have ht : (c.take off).length = off := by simp; omega
  simp only [spliceV, List.append_assoc]
  by_cases h1 : j < off
  · rw [List.getElem?_append_left (by omega), if_neg (by omega), List.getElem?_take, if_pos h1]
  · rw [List.getElem?_append_right (by omega), ht]
    by_cases h2 : j < off + vs.length
    · rw [List.getElem?_append_left (by omega), if_pos (by omega)]
    · rw [List.getElem?_append_right (by omega), if_neg (by omega), List.getElem?_drop]
      congr 1; omega

theorem storeCells_run {B : Nat} {e : TypeId} {off : Nat} :
    ∀ (vs : List Value) (i : Nat) (w : World) (c : Array Value), w.heap[B]? = some (.cells c e (0, 0)) → off + i + vs.length ≤ c.size → (∀ v ∈ vs, v.oneCell' = true) →
      (storeCells ⟨B, off, none⟩ vs i).run P w = .ok () (setObj w B (.cells (spliceV c.toList (off + i) vs).toArray e (0, 0)))
  | [], i, w, c, h, hn, ho => by
    have : setObj w B (.cells (spliceV c.toList (off + i) []).toArray e (0, 0)) = w := by
      have hB := lt_of_heap h
      have : (spliceV c.toList (off + i) []).toArray = c := by simp [spliceV, List.take_append_drop]
      rw [this]
      have : w.heap.setIfInBounds B (.cells c e (0, 0)) = w.heap := by
        apply Array.ext_getElem?
        intro k
        rw [Array.getElem?_setIfInBounds]
        split
        · subst_vars; exact h.symm
        · rfl
      simp [setObj, this]
    rw [this]; rfl
  | v :: r, i, w, c, h, hn, ho => by
    have hB := lt_of_heap h
    have hn' : off + i + (r.length + 1) ≤ c.size := by simpa using hn
    have hlt : off + i < c.size := by omega
    have hv := ho v (by simp)
    rw [storeCells, Sem.run_bind, add_none, run_store P w _ v _ hv, cell_of h, Array.getElem?_eq_getElem hlt]
    simp only [frozen_of h, Bool.false_eq_true, if_false, Result.andThen_ok]
    have hw : w.setCell ⟨B, off + i, none⟩ v = setObj w B (.cells (c.setIfInBounds (off + i) v) e (0, 0)) := by
      simp only [World.setCell, setObj]
      congr 1
      apply Array.ext_getElem?
      intro k
      rw [Array.getElem?_modify, Array.getElem?_setIfInBounds]
      by_cases hk : B = k
      · subst hk; rw [if_pos rfl, if_pos rfl, if_pos hB, h]; rfl
      · simp [hk]
    rw [hw, storeCells_run r (i + 1) _ (c.setIfInBounds (off + i) v) (heap_setObj_self _ hB) (by simp; omega) (fun v hv => ho v (by simp [hv])), setObj_twice]
    congr 3
    have : (c.setIfInBounds (off + i) v).toList = c.toList.set (off + i) v := by simp
    rw [this]
    have hc : c.toList.length = c.size := by simp
    apply congrArg List.toArray
    apply List.ext_getElem?
    intro k
    rw [spliceV_get (by simp; omega), spliceV_get (by simp; omega)]
    simp only [List.length_cons]
    by_cases h1 : off + (i + 1) ≤ k ∧ k < off + (i + 1) + r.length
    · rw [if_pos h1, if_pos (by omega)]
      have : k - (off + i) = (k - (off + (i + 1))) + 1 := by omega
      rw [this, List.getElem?_cons_succ]
    · rw [if_neg h1, List.getElem?_set]
      by_cases h2 : off + i = k
      · subst h2; rw [if_pos rfl, if_pos (by omega), if_pos (by omega)]; simp
      · rw [if_neg h2, if_neg (by omega)]
end mem
end Go.Am
namespace Go.Am

/-- a step that leaves all but the call's own blocks as they were -/
structure LStep (G G2 : Gh) : Prop where
  st : StRel G2
  size : G.w.heap.size ≤ G2.w.heap.size
  F : G2.F = G.F
  yl : G2.yl = G.yl
  outer : G2.H.outer = G.H.outer
  os : G2.w.os = G.w.os
  tape : G2.w.tape = G.w.tape
  output : G2.w.output = G.w.output
  far : ∀ B, B < G.w.heap.size → (∀ b x, G.H.get b = some x → G.ι b ≠ some B) → G2.w.heap[B]? = G.w.heap[B]?
  rng : ∀ b x B, G2.H.get b = some x → G2.ι b = some B → (∃ b0 x0, G.H.get b0 = some x0 ∧ G.ι b0 = some B) ∨ G.w.heap.size ≤ B
  A : ∀ b g, G.A b g → G2.A b g
  cells : ∀ b cs', G.A b 0 → G2.H.get b = some (.cells cs') → ∃ cs, G.H.get b = some (.cells cs) ∧ G2.ι b = G.ι b
  rows : ∀ b g sz p es', G.A b g → G2.H.get b = some (.sl g sz p es') →
    ∃ p0 es, G.H.get b = some (.sl g sz p0 es) ∧ es.length = es'.length ∧ G2.ι b = G.ι b ∧ ∀ B, G.ι b = some B → bsz G.w B ≤ bsz G2.w B
  maps : ∀ b ks vs, G.A b 0 → G2.H.get b = some (.map ks vs) → ∃ ks0 vs0, G.H.get b = some (.map ks0 vs0) ∧ G2.ι b = G.ι b
  kind : ∀ b g sz p es' g1, G.A b g1 → G2.H.get b = some (.sl g sz p es') → ∃ g0 sz0 p0 es, G.H.get b = some (.sl g0 sz0 p0 es) ∧ g0 ≤ g

theorem still_of {G G2 : Gh} (F : G2.F = G.F)
    (far : ∀ B, B < G.w.heap.size → (∀ b x, G.H.get b = some x → G.ι b ≠ some B) → G2.w.heap[B]? = G.w.heap[B]?)
    (rng : ∀ b x B, G2.H.get b = some x → G2.ι b = some B → (∃ b0 x0, G.H.get b0 = some x0 ∧ G.ι b0 = some B) ∨ G.w.heap.size ≤ B)
    (B : Nat) (hB : B < G.w.heap.size) (hM : ¬ G.M B) : ¬ G2.M B ∧ G2.w.heap[B]? = G.w.heap[B]? := by
  refine ⟨fun h => ?_, far B hB fun b x hb hi => hM (.inr ⟨b, x, hb, hi⟩)⟩
  rcases h with h | ⟨b, x, hb, hi⟩
  · exact hM (.inl (F ▸ h))
  · rcases rng b x B hb hi with ⟨b0, x0, h0, h1⟩ | h
    · exact hM (.inr ⟨b0, x0, h0, h1⟩)
    · omega

theorem LStep.ext {G G2 : Gh} (h : LStep G G2) : Ext G G2 where
  size := h.size
  still := still_of h.F h.far h.rng
  next := by rintro b g b' g' ha he; cases he; exact h.A _ _ ha
  cells := by rintro b b' g' cs' ha he; cases he; exact h.cells _ _ ha
  rows := by rintro b g b' g' sz p es' ha he; cases he; exact h.rows _ _ _ _ _ ha
  maps := by rintro b b' g' ks vs ha he; cases he; exact h.maps _ _ _ ha
  yl := .inr h.yl
  zero := by rintro b b' g' ha he; cases he; exact fun h => h

theorem LStep.refl {G : Gh} (h : StRel G) : LStep G G where
  st := h
  size := Nat.le_refl _
  F := rfl
  yl := rfl
  outer := rfl
  os := rfl
  tape := rfl
  output := rfl
  far _ _ _ := rfl
  rng b x B hb hi := .inl ⟨b, x, hb, hi⟩
  A _ _ h := h
  cells b cs' _ h := ⟨cs', h, rfl⟩
  rows b g sz p es' _ h := ⟨p, es', h, rfl, rfl, fun _ _ => Nat.le_refl _⟩
  maps b ks vs _ h := ⟨ks, vs, h, rfl⟩
  kind b g sz p es' g1 _ h := ⟨g, sz, p, es', h, Nat.le_refl _⟩

theorem LStep.trans {G G1 G2 : Gh} (h : LStep G G1) (k : LStep G1 G2) : LStep G G2 where
  st := k.st
  size := Nat.le_trans h.size k.size
  F := k.F.trans h.F
  yl := k.yl.trans h.yl
  outer := k.outer.trans h.outer
  os := k.os.trans h.os
  tape := k.tape.trans h.tape
  output := k.output.trans h.output
  far B hB hn := by
    have h1 := h.far B hB hn
    refine (k.far B (Nat.lt_of_lt_of_le hB h.size) fun b x hb hi => ?_).trans h1
    rcases h.rng b x B hb hi with ⟨b0, x0, h0, h2⟩ | h0
    · exact hn b0 x0 h0 h2
    · omega
  rng b x B hb hi := by
    rcases k.rng b x B hb hi with ⟨b0, x0, h0, h1⟩ | h0
    · rcases h.rng b0 x0 B h0 h1 with h2 | h2
      · exact .inl h2
      · exact .inr h2
    · have := h.size; exact .inr (by omega)
  A b g ha := k.A b g (h.A b g ha)
  cells b cs' ha hc := by
    obtain ⟨cs1, h1, h2⟩ := k.cells b cs' (h.A _ _ ha) hc
    obtain ⟨cs0, h3, h4⟩ := h.cells b cs1 ha h1
    exact ⟨cs0, h3, h2.trans h4⟩
  rows b g sz p es' ha hc := by
    obtain ⟨p1, es1, h1, h2, h3, h4⟩ := k.rows b g sz p es' (h.A _ _ ha) hc
    obtain ⟨p0, es0, h5, h6, h7, h8⟩ := h.rows b g sz p1 es1 ha h1
    exact ⟨p0, es0, h5, h6.trans h2, h3.trans h7, fun B hB => Nat.le_trans (h8 B hB) (h4 B (h7.trans hB))⟩
  maps b ks vs ha hc := by
    obtain ⟨k1, v1, h1, h2⟩ := k.maps b ks vs (h.A _ _ ha) hc
    obtain ⟨k0, v0, h3, h4⟩ := h.maps b k1 v1 ha h1
    exact ⟨k0, v0, h3, h2.trans h4⟩
  kind b g sz p es' g1 ha hc := by
    obtain ⟨g0, sz0, p0, es, h1, h2⟩ := k.kind b g sz p es' g1 (h.A _ _ ha) hc
    obtain ⟨g2, sz2, p2, es2, h3, h4⟩ := h.kind b g0 sz0 p0 es g1 ha h1
    exact ⟨g2, sz2, p2, es2, h3, Nat.le_trans h4 h2⟩

/-! ### heaps -/
theorem lookup_filter_ne (l : List (Nat × ABlk)) (b c : Nat) (h : c ≠ b) : (l.filter fun q => q.1 != b).lookup c = l.lookup c := by
  induction l with
  | nil => rfl
  | cons x r ih =>
    obtain ⟨k, v⟩ := x
    by_cases hk : k = b
    · subst hk
      simp only [List.filter_cons, bne_self_eq_false, Bool.false_eq_true, if_false, List.lookup_cons]
      rw [ih]
      have : (c == k) = false := beq_eq_false_iff_ne.2 h
      rw [this]
    · have : (k != b) = true := by simp [hk]
      simp only [List.filter_cons, this, if_true, List.lookup_cons, ih]
theorem get_put (H : Heap) (b c : Nat) (x : ABlk) : (H.put b x).get c = if c = b then some x else H.get c := by
  simp only [Heap.get, Heap.put, List.lookup_cons]
  by_cases h : c = b
  · subst h; simp
  · rw [if_neg h]
    have : (c == b) = false := by simp [h]
    rw [this]
    exact lookup_filter_ne H.bs b c h
theorem next_put (H : Heap) (b : Nat) (x : ABlk) : (H.put b x).next = max H.next (b + 1) := rfl
theorem outer_put (H : Heap) (b : Nat) (x : ABlk) : (H.put b x).outer = H.outer := rfl

/-- what a block says is carried along -/
theorem CellsRel.mv {G G2 : Gh} {cs : List AV} {B : Nat} (h : CellsRel G cs B) (he : Ext G G2) (hB : G2.w.heap[B]? = G.w.heap[B]?) : CellsRel G2 cs B := by
  obtain ⟨c, e, h1, h2, h3⟩ := h
  exact ⟨c, e, hB.trans h1, h2, fun j x v a b => (h3 j x v a b).ext he⟩
theorem RowRel.mv {G G2 : Gh} {sz : Nat} {p : Bool} {es : List AV} {B : Nat} (h : RowRel G sz p es B) (he : Ext G G2) (hB : G2.w.heap[B]? = G.w.heap[B]?) : RowRel G2 sz p es B := by
  obtain ⟨c, e, h1, h2, h3⟩ := h
  exact ⟨c, e, hB.trans h1, h2, fun i x j y v a b d => (h3 i x j y v a b d).ext he⟩
theorem MapRel.mv {G G2 : Gh} {ks vs : List AV} {B : Nat} (h : MapRel G ks vs B) (he : Ext G G2) (hB : G2.w.heap[B]? = G.w.heap[B]?) : MapRel G2 ks vs B := by
  obtain ⟨es, clock, h1, h2, h3, h4, h5⟩ := h
  exact ⟨es, clock, hB.trans h1, h2, h3, fun i k e a b => (h4 i k e a b).ext he, fun i v e a b => (h5 i v e a b).ext he⟩
theorem BlkRel.mv {G G2 : Gh} {b : Nat} {x : ABlk} (h : BlkRel G b x) (he : Ext G G2) (hi : G2.ι b = G.ι b) (hF : ∀ B, G.ι b = some B → B < G.w.heap.size → ¬ G.F B → ¬ G2.F B)
    (hB : ∀ B, G.ι b = some B → B < G.w.heap.size → G2.w.heap[B]? = G.w.heap[B]?) : BlkRel G2 b x := by
  cases x with
  | cells cs =>
    obtain ⟨B, h1, h2, h3, h4⟩ := h
    exact ⟨B, hi.trans h1, Nat.lt_of_lt_of_le h2 he.size, hF B h1 h2 h3, h4.mv he (hB B h1 h2)⟩
  | sl g sz p es =>
    obtain ⟨h0, h | ⟨B, h1, h2, h3, h4⟩⟩ := h
    · exact ⟨h0, .inl ⟨hi.trans h.1, h.2⟩⟩
    · exact ⟨h0, .inr ⟨B, hi.trans h1, Nat.lt_of_lt_of_le h2 he.size, hF B h1 h2 h3, h4.mv he (hB B h1 h2)⟩⟩
  | map ks vs =>
    obtain ⟨B, h1, h2, h3, h4⟩ := h
    exact ⟨B, hi.trans h1, Nat.lt_of_lt_of_le h2 he.size, hF B h1 h2 h3, h4.mv he (hB B h1 h2)⟩

/-- only the tape has gone on -/
def drawG (G : Gh) (n : Nat) : Gh := { G with w := { G.w with drawn := n } }
theorem LStep.draw {G : Gh} (h : StRel G) (n : Nat) : LStep G (drawG G n) := by
  have he : Ext G (drawG G n) := {
    size := Nat.le_refl _
    still := fun B hB hM => ⟨hM, rfl⟩
    next := by rintro b g b' g' ha he; cases he; exact ha
    cells := by rintro b b' g' cs' ha he h; cases he; exact ⟨cs', h, rfl⟩
    rows := by rintro b g b' g' sz p es' ha he h; cases he; exact ⟨p, es', h, rfl, rfl, fun _ _ => Nat.le_refl _⟩
    maps := by rintro b b' g' ks vs ha he h; cases he; exact ⟨ks, vs, h, rfl⟩
    yl := .inr rfl
    zero := by rintro b b' g' ha he; cases he; exact fun h => h }
  have hst : StRel (drawG G n) := {
    next := h.next, here := h.here, gen := h.gen, inj := h.inj, low := h.low
    blk := fun b x hb => (h.blk b x hb).mv he rfl (fun _ _ _ h => h) (fun _ _ _ => rfl) }
  exact { LStep.refl h with st := hst }

/-- blocks of one kind, of one generation, of one length -/
def SameKind : ABlk → ABlk → Prop
  | .cells _, .cells _ => True
  | .sl g sz _ es, .sl g' sz' _ es' => g = g' ∧ sz = sz' ∧ es.length = es'.length
  | .map _ _, .map _ _ => True
  | _, _ => False
def putG (G : Gh) (b B : Nat) (x : ABlk) (o : Obj) : Gh := { G with w := setObj G.w B o, H := G.H.put b x }
theorem SameKind.gen {x x' : ABlk} (h : SameKind x x') : x'.gen = x.gen := by
  cases x <;> cases x' <;> simp_all [SameKind, ABlk.gen]

/-- a block of the call's own is turned -/
theorem LStep.put {G : Gh} (hS : StRel G) {b B : Nat} {x x' : ABlk} {o : Obj} (hb : G.H.get b = some x) (hi : G.ι b = some B) (hk : SameKind x x')
    (hsz : ∀ sz g p es, x = .sl g sz p es → bsz G.w B ≤ bsz (setObj G.w B o) B)
    (hrel : Ext G (putG G b B x' o) → BlkRel (putG G b B x' o) b x') : LStep G (putG G b B x' o) := by
  have hB := (hS.live hb hi).1
  have hgen := hk.gen
  have hcell : ∀ b' cs', (putG G b B x' o).H.get b' = some (.cells cs') → ∃ cs, G.H.get b' = some (.cells cs) := by
    intro b' cs' h
    simp only [putG, get_put] at h
    by_cases hbb : b' = b
    · rw [if_pos hbb] at h; cases h; subst hbb
      cases x <;> simp_all [SameKind]
    · rw [if_neg hbb] at h; exact ⟨cs', h⟩
  have hrow : ∀ b' g sz p es', (putG G b B x' o).H.get b' = some (.sl g sz p es') → ∃ p0 es, G.H.get b' = some (.sl g sz p0 es) ∧ es.length = es'.length ∧
      ∀ B', G.ι b' = some B' → bsz G.w B' ≤ bsz (putG G b B x' o).w B' := by
    intro b' g sz p es' h
    simp only [putG, get_put] at h
    by_cases hbb : b' = b
    · rw [if_pos hbb] at h; cases h; subst hbb
      cases x with
      | sl g0 sz0 p0 es0 =>
        obtain ⟨rfl, rfl, hl⟩ := hk
        refine ⟨p0, es0, hb, hl, fun B' hB' => ?_⟩
        rw [hi] at hB'; cases hB'
        exact hsz _ _ _ _ rfl
      | cells _ => exact hk.elim
      | map _ _ => exact hk.elim
    · rw [if_neg hbb] at h
      refine ⟨p, es', h, rfl, fun B' hB' => ?_⟩
      have : B' ≠ B := fun e => hbb (hS.inj b' b _ _ B h hb (e ▸ hB') hi)
      simp only [bsz, putG, heap_setObj_ne o this]; exact Nat.le_refl _
  have hmap : ∀ b' ks vs, (putG G b B x' o).H.get b' = some (.map ks vs) → ∃ k0 v0, G.H.get b' = some (.map k0 v0) := by
    intro b' ks vs h
    simp only [putG, get_put] at h
    by_cases hbb : b' = b
    · rw [if_pos hbb] at h; cases h; subst hbb
      cases x <;> simp_all [SameKind]
    · rw [if_neg hbb] at h; exact ⟨ks, vs, h⟩
  have hany : ∀ b' y, (putG G b B x' o).H.get b' = some y → ∃ y0, G.H.get b' = some y0 ∧ (b' ≠ b → y0 = y) ∧ (b' = b → y = x' ∧ y0 = x) := by
    intro b' y h
    simp only [putG, get_put] at h
    by_cases hbb : b' = b
    · rw [if_pos hbb] at h; cases h; subst hbb; exact ⟨x, hb, fun h => absurd rfl h, fun _ => ⟨rfl, rfl⟩⟩
    · rw [if_neg hbb] at h; exact ⟨y, h, fun _ => rfl, fun h => absurd h hbb⟩
  have far : ∀ B', B' < G.w.heap.size → (∀ b x, G.H.get b = some x → G.ι b ≠ some B') → (putG G b B x' o).w.heap[B']? = G.w.heap[B']? := by
    intro B' _ hn
    have : B' ≠ B := fun e => hn b x hb (e ▸ hi)
    exact heap_setObj_ne o this
  have rng : ∀ b' y B', (putG G b B x' o).H.get b' = some y → G.ι b' = some B' → (∃ b0 x0, G.H.get b0 = some x0 ∧ G.ι b0 = some B') ∨ G.w.heap.size ≤ B' := by
    intro b' y B' h h'
    obtain ⟨y0, h0, _⟩ := hany b' y h
    exact .inl ⟨b', y0, h0, h'⟩
  have size : G.w.heap.size ≤ (putG G b B x' o).w.heap.size := by simp [putG, size_setObj]
  have he : Ext G (putG G b B x' o) := {
    size := size
    still := still_of rfl far rng
    next := by rintro b g b' g' ha he; cases he; exact ha
    cells := by rintro b b' g' cs' ha he h; cases he; obtain ⟨cs, h0⟩ := hcell _ _ h; exact ⟨cs, h0, rfl⟩
    rows := by rintro b g b' g' sz p es' ha he h; cases he; obtain ⟨p0, es, h0, h1, h2⟩ := hrow _ _ _ _ _ h; exact ⟨p0, es, h0, h1, rfl, h2⟩
    maps := by rintro b b' g' ks vs ha he h; cases he; obtain ⟨k0, v0, h0⟩ := hmap _ _ _ h; exact ⟨k0, v0, h0, rfl⟩
    yl := .inr rfl
    zero := by rintro b b' g' ha he; cases he; exact fun h => h }
  have hst : StRel (putG G b B x' o) := {
    next := fun b' g' ha => by
      have := hS.next b' g' ha
      simp only [putG, next_put]; omega
    here := fun b' y h => by
      obtain ⟨y0, h0, h1, h2⟩ := hany b' y h
      have := hS.here b' y0 h0
      by_cases hbb : b' = b
      · obtain ⟨rfl, rfl⟩ := h2 hbb; rw [hgen]; exact this
      · rw [← h1 hbb]; exact this
    gen := fun b' g sz p es g' h ha => by
      obtain ⟨p0, es0, h0, _⟩ := hrow _ _ _ _ _ h
      exact hS.gen b' g sz p0 es0 g' h0 ha
    blk := fun b' y h => by
      obtain ⟨y0, h0, h1, h2⟩ := hany b' y h
      by_cases hbb : b' = b
      · obtain ⟨e1, _⟩ := h2 hbb; subst hbb; rw [e1]; exact hrel he
      · have e1 := h1 hbb
        rw [← e1]
        refine (hS.blk b' y0 h0).mv he rfl (fun _ _ _ h => h) fun B' hB' _ => ?_
        have : B' ≠ B := fun e => hbb (hS.inj b' b _ _ B h0 hb (e ▸ hB') hi)
        exact heap_setObj_ne o this
    inj := fun b1 b2 y1 y2 B' h1 h2 i1 i2 => by
      obtain ⟨z1, k1, _⟩ := hany b1 y1 h1
      obtain ⟨z2, k2, _⟩ := hany b2 y2 h2
      exact hS.inj b1 b2 z1 z2 B' k1 k2 i1 i2
    low := fun B' h => by have := hS.low B' h; simpa [putG, size_setObj] using this }
  exact {
    st := hst, size := size, F := rfl, yl := rfl, outer := rfl, os := rfl, tape := rfl, output := rfl, far := far, rng := rng
    A := fun _ _ h => h
    cells := fun b' cs' _ h => by obtain ⟨cs, h0⟩ := hcell _ _ h; exact ⟨cs, h0, rfl⟩
    rows := fun b' g sz p es' _ h => by obtain ⟨p0, es, h0, h1, h2⟩ := hrow _ _ _ _ _ h; exact ⟨p0, es, h0, h1, rfl, h2⟩
    maps := fun b' ks vs _ h => by obtain ⟨k0, v0, h0⟩ := hmap _ _ _ h; exact ⟨k0, v0, h0, rfl⟩
    kind := fun b' g sz p es' g1 _ h => by obtain ⟨p0, es, h0, _⟩ := hrow _ _ _ _ _ h; exact ⟨g, sz, p0, es, h0, Nat.le_refl _⟩ }

/-- a new block -/
def newW (w : World) (o : Obj) : World := { w with heap := w.heap.push o }
def newG (G : Gh) (b : Nat) (x : ABlk) (o : Obj) : Gh :=
  { G with w := newW G.w o, H := G.H.put b x, ι := fun b' => if b' = b then some G.w.heap.size else G.ι b', A := fun b' g => G.A b' g ∨ (b' = b ∧ g = x.gen) }
theorem heap_new (w : World) (o : Obj) (B : Nat) : (newW w o).heap[B]? = if B = w.heap.size then some o else w.heap[B]? := by
  simp only [newW, Array.getElem?_push]
theorem size_new (w : World) (o : Obj) : (newW w o).heap.size = w.heap.size + 1 := by simp [newW]
theorem LStep.new {G : Gh} (hS : StRel G) {b : Nat} {x : ABlk} {o : Obj} (hA : ∀ g, ¬ G.A b g)
    (hrel : Ext G (newG G b x o) → BlkRel (newG G b x o) b x) : LStep G (newG G b x o) := by
  have hnone : G.H.get b = none := by
    cases h : G.H.get b with
    | none => rfl
    | some y => exact absurd (hS.here b y h) (hA _)
  have hany : ∀ b' y, (newG G b x o).H.get b' = some y → (b' ≠ b ∧ G.H.get b' = some y) ∨ (b' = b ∧ y = x) := by
    intro b' y h
    simp only [newG, get_put] at h
    by_cases hbb : b' = b
    · rw [if_pos hbb] at h; cases h; exact .inr ⟨hbb, rfl⟩
    · rw [if_neg hbb] at h; exact .inl ⟨hbb, h⟩
  have hold : ∀ b' y g, G.A b' g → (newG G b x o).H.get b' = some y → G.H.get b' = some y ∧ (newG G b x o).ι b' = G.ι b' := by
    intro b' y g ha h
    rcases hany b' y h with ⟨hne, h0⟩ | ⟨rfl, _⟩
    · exact ⟨h0, by simp [newG, hne]⟩
    · exact absurd ha (hA g)
  have hheap : ∀ B, B < G.w.heap.size → (newG G b x o).w.heap[B]? = G.w.heap[B]? := by
    intro B hB; simp only [newG, heap_new]; rw [if_neg (by omega)]
  have hbsz : ∀ B, B < G.w.heap.size → bsz G.w B ≤ bsz (newG G b x o).w B := by
    intro B hB; simp only [bsz, hheap B hB]; exact Nat.le_refl _
  have rng : ∀ b' y B', (newG G b x o).H.get b' = some y → (newG G b x o).ι b' = some B' → (∃ b0 x0, G.H.get b0 = some x0 ∧ G.ι b0 = some B') ∨ G.w.heap.size ≤ B' := by
    intro b' y B' h h'
    rcases hany b' y h with ⟨hne, h0⟩ | ⟨rfl, _⟩
    · simp only [newG, if_neg hne] at h'; exact .inl ⟨b', y, h0, h'⟩
    · simp only [newG, if_true] at h'; cases h'; exact .inr (Nat.le_refl _)
  have size : G.w.heap.size ≤ (newG G b x o).w.heap.size := by simp [newG, size_new]
  have hrow : ∀ b' g sz p es', G.A b' g → (newG G b x o).H.get b' = some (.sl g sz p es') →
      ∃ p0 es, G.H.get b' = some (.sl g sz p0 es) ∧ es.length = es'.length ∧ (newG G b x o).ι b' = G.ι b' ∧ ∀ B, G.ι b' = some B → bsz G.w B ≤ bsz (newG G b x o).w B := by
    intro b' g sz p es' ha h
    obtain ⟨h0, h1⟩ := hold b' _ g ha h
    exact ⟨p, es', h0, rfl, h1, fun B hB => hbsz B (hS.live h0 hB).1⟩
  have he : Ext G (newG G b x o) := {
    size := size
    still := still_of rfl (fun B hB _ => hheap B hB) rng
    next := by rintro b g b' g' ha he; cases he; exact .inl ha
    cells := by rintro b b' g' cs' ha he h; cases he; obtain ⟨h0, h1⟩ := hold _ _ _ ha h; exact ⟨cs', h0, h1⟩
    rows := by rintro b g b' g' sz p es' ha he h; cases he; exact hrow _ _ _ _ _ ha h
    maps := by rintro b b' g' ks vs ha he h; cases he; obtain ⟨h0, h1⟩ := hold _ _ _ ha h; exact ⟨ks, vs, h0, h1⟩
    yl := .inr rfl
    zero := by rintro b b' g' ha he; cases he; exact fun h => h }
  have hst : StRel (newG G b x o) := {
    next := fun b' g' ha => by
      simp only [newG, next_put]
      rcases ha with ha | ⟨rfl, _⟩
      · have := hS.next b' g' ha; omega
      · omega
    here := fun b' y h => by
      rcases hany b' y h with ⟨_, h0⟩ | ⟨rfl, rfl⟩
      · exact .inl (hS.here b' y h0)
      · exact .inr ⟨rfl, rfl⟩
    gen := fun b' g sz p es g' h ha => by
      rcases hany b' _ h with ⟨hne, h0⟩ | ⟨rfl, hx⟩
      · rcases ha with ha | ⟨rfl, _⟩
        · exact hS.gen b' g sz p es g' h0 ha
        · exact absurd rfl hne
      · subst hx
        rcases ha with ha | ⟨_, hg⟩
        · exact absurd ha (hA _)
        · simp only [ABlk.gen] at hg; omega
    blk := fun b' y h => by
      rcases hany b' y h with ⟨hne, h0⟩ | ⟨rfl, rfl⟩
      · exact (hS.blk b' y h0).mv he (by simp [newG, hne]) (fun _ _ _ h => h) fun B hB hl => hheap B hl
      · exact hrel he
    inj := fun b1 b2 y1 y2 B' h1 h2 i1 i2 => by
      rcases hany b1 y1 h1 with ⟨n1, k1⟩ | ⟨rfl, rfl⟩ <;> rcases hany b2 y2 h2 with ⟨n2, k2⟩ | ⟨rfl, rfl⟩
      · simp only [newG, if_neg n1] at i1; simp only [newG, if_neg n2] at i2
        exact hS.inj b1 b2 y1 y2 B' k1 k2 i1 i2
      · simp only [newG, if_neg n1] at i1; simp only [newG, if_true] at i2; cases i2
        have := (hS.live k1 i1).1; omega
      · simp only [newG, if_neg n2] at i2; simp only [newG, if_true] at i1; cases i1
        have := (hS.live k2 i2).1; omega
      · rfl
    low := fun B' h => by have := hS.low B' h; simp only [newG, size_new]; omega }
  exact {
    st := hst, size := size, F := rfl, yl := rfl, outer := rfl, os := rfl, tape := rfl, output := rfl, far := fun B hB _ => hheap B hB, rng := rng
    A := fun _ _ h => .inl h
    cells := fun b' cs' ha h => by obtain ⟨h0, h1⟩ := hold _ _ _ ha h; exact ⟨cs', h0, h1⟩
    rows := hrow
    maps := fun b' ks vs ha h => by obtain ⟨h0, h1⟩ := hold _ _ _ ha h; exact ⟨ks, vs, h0, h1⟩
    kind := fun b' g sz p es' g1 ha h => by obtain ⟨h0, _⟩ := hold _ _ _ ha h; exact ⟨g, sz, p, es', h0, Nat.le_refl _⟩ }

/-- a row of the call's own grows: a new generation, where it lay or elsewhere -/
def growG (G : Gh) (b B : Nat) (x : ABlk) (w : World) : Gh :=
  { G with w := w, H := G.H.put b x, ι := fun b' => if b' = b then some B else G.ι b', A := fun b' g => G.A b' g ∨ (b' = b ∧ g = x.gen) }
theorem LStep.grow {G : Gh} (hS : StRel G) {b B g sz : Nat} {p p' : Bool} {es es' : List AV} {w : World} (hb : G.H.get b = some (.sl g sz p es))
    (hw : G.w.heap.size ≤ w.heap.size) (hos : w.os = G.w.os) (htape : w.tape = G.w.tape) (hout : w.output = G.w.output)
    (hother : ∀ B', B' < G.w.heap.size → G.ι b ≠ some B' → w.heap[B']? = G.w.heap[B']?) (hB : G.ι b = some B ∨ G.w.heap.size ≤ B)
    (hrel : Ext G (growG G b B (.sl (g + 1) sz p' es') w) → BlkRel (growG G b B (.sl (g + 1) sz p' es') w) b (.sl (g + 1) sz p' es')) :
    LStep G (growG G b B (.sl (g + 1) sz p' es') w) := by
  have hany : ∀ b' y, (growG G b B (.sl (g + 1) sz p' es') w).H.get b' = some y → (b' ≠ b ∧ G.H.get b' = some y) ∨ (b' = b ∧ y = .sl (g + 1) sz p' es') := by
    intro b' y h
    simp only [growG, get_put] at h
    by_cases hbb : b' = b
    · rw [if_pos hbb] at h; cases h; exact .inr ⟨hbb, rfl⟩
    · rw [if_neg hbb] at h; exact .inl ⟨hbb, h⟩
  have hother' : ∀ b' y B', b' ≠ b → G.H.get b' = some y → G.ι b' = some B' → w.heap[B']? = G.w.heap[B']? := by
    intro b' y B' hne h hi
    refine hother B' (hS.live h hi).1 fun e => hne (hS.inj b' b _ _ B' h hb hi e)
  have rng : ∀ b' y B', (growG G b B (.sl (g + 1) sz p' es') w).H.get b' = some y → (growG G b B (.sl (g + 1) sz p' es') w).ι b' = some B' →
      (∃ b0 x0, G.H.get b0 = some x0 ∧ G.ι b0 = some B') ∨ G.w.heap.size ≤ B' := by
    intro b' y B' h h'
    rcases hany b' y h with ⟨hne, h0⟩ | ⟨rfl, _⟩
    · simp only [growG, if_neg hne] at h'; exact .inl ⟨b', y, h0, h'⟩
    · simp only [growG, if_true] at h'; cases h'
      rcases hB with h1 | h1
      · exact .inl ⟨b', _, hb, h1⟩
      · exact .inr h1
  have far : ∀ B', B' < G.w.heap.size → (∀ b x, G.H.get b = some x → G.ι b ≠ some B') → w.heap[B']? = G.w.heap[B']? :=
    fun B' hl hn => hother B' hl (hn b _ hb)
  have hrow : ∀ b' g0 sz0 p0 es0, G.A b' g0 → (growG G b B (.sl (g + 1) sz p' es') w).H.get b' = some (.sl g0 sz0 p0 es0) →
      ∃ p1 es1, G.H.get b' = some (.sl g0 sz0 p1 es1) ∧ es1.length = es0.length ∧ (growG G b B (.sl (g + 1) sz p' es') w).ι b' = G.ι b' ∧
        ∀ B', G.ι b' = some B' → bsz G.w B' ≤ bsz w B' := by
    intro b' g0 sz0 p0 es0 ha h
    rcases hany b' _ h with ⟨hne, h0⟩ | ⟨rfl, hx⟩
    · refine ⟨p0, es0, h0, rfl, by simp [growG, hne], fun B' hi => ?_⟩
      simp only [bsz, hother' b' _ B' hne h0 hi]; exact Nat.le_refl _
    · cases hx
      have := hS.gen b' g sz p es _ hb ha
      omega
  have hcell : ∀ b' y, (∀ g sz p es, y ≠ .sl g sz p es) → (growG G b B (.sl (g + 1) sz p' es') w).H.get b' = some y → G.H.get b' = some y ∧ (growG G b B (.sl (g + 1) sz p' es') w).ι b' = G.ι b' := by
    intro b' y hy h
    rcases hany b' _ h with ⟨hne, h0⟩ | ⟨rfl, hx⟩
    · exact ⟨h0, by simp [growG, hne]⟩
    · exact absurd hx (hy _ _ _ _)
  have he : Ext G (growG G b B (.sl (g + 1) sz p' es') w) := {
    size := hw
    still := still_of rfl far rng
    next := by rintro b g b' g' ha he; cases he; exact .inl ha
    cells := by rintro b b' g' cs' ha he h; cases he; obtain ⟨h0, h1⟩ := hcell _ _ (by simp) h; exact ⟨cs', h0, h1⟩
    rows := by rintro b g b' g' sz p es' ha he h; cases he; exact hrow _ _ _ _ _ ha h
    maps := by rintro b b' g' ks vs ha he h; cases he; obtain ⟨h0, h1⟩ := hcell _ _ (by simp) h; exact ⟨ks, vs, h0, h1⟩
    yl := .inr rfl
    zero := by rintro b b' g' ha he; cases he; exact fun h => h }
  have hblk := hrel he
  have hBs : B < w.heap.size ∧ ¬ G.F B ∧ B < w.heap.size := by
    obtain ⟨_, h | ⟨B', h1, h2, h3, _⟩⟩ := hblk
    · simp [growG] at h
    · simp only [growG, if_true] at h1; cases h1; exact ⟨h2, h3, h2⟩
  have hst : StRel (growG G b B (.sl (g + 1) sz p' es') w) := {
    next := fun b' g' ha => by
      simp only [growG, next_put]
      rcases ha with ha | ⟨rfl, _⟩
      · have := hS.next b' g' ha; omega
      · omega
    here := fun b' y h => by
      rcases hany b' y h with ⟨_, h0⟩ | ⟨rfl, rfl⟩
      · exact .inl (hS.here b' y h0)
      · exact .inr ⟨rfl, rfl⟩
    gen := fun b' g0 sz0 p0 es0 g' h ha => by
      rcases hany b' _ h with ⟨hne, h0⟩ | ⟨rfl, hx⟩
      · rcases ha with ha | ⟨rfl, _⟩
        · exact hS.gen b' g0 sz0 p0 es0 g' h0 ha
        · exact absurd rfl hne
      · cases hx
        rcases ha with ha | ⟨_, hg⟩
        · have := hS.gen b' g sz p es g' hb ha; omega
        · simp only [ABlk.gen] at hg; omega
    blk := fun b' y h => by
      rcases hany b' y h with ⟨hne, h0⟩ | ⟨rfl, rfl⟩
      · exact (hS.blk b' y h0).mv he (by simp [growG, hne]) (fun _ _ _ h => h) fun B' hi _ => hother' b' _ B' hne h0 hi
      · exact hblk
    inj := fun b1 b2 y1 y2 B' h1 h2 i1 i2 => by
      rcases hany b1 y1 h1 with ⟨n1, k1⟩ | ⟨rfl, rfl⟩ <;> rcases hany b2 y2 h2 with ⟨n2, k2⟩ | ⟨rfl, rfl⟩
      · simp only [growG, if_neg n1] at i1; simp only [growG, if_neg n2] at i2
        exact hS.inj b1 b2 y1 y2 B' k1 k2 i1 i2
      · simp only [growG, if_neg n1] at i1; simp only [growG, if_true] at i2; cases i2
        rcases hB with hB | hB
        · exact hS.inj b1 _ y1 _ B k1 hb i1 hB
        · have := (hS.live k1 i1).1; omega
      · simp only [growG, if_neg n2] at i2; simp only [growG, if_true] at i1; cases i1
        rcases hB with hB | hB
        · exact (hS.inj b2 _ y2 _ B k2 hb i2 hB).symm
        · have := (hS.live k2 i2).1; omega
      · rfl
    low := fun B' h => by have := hS.low B' h; exact Nat.lt_of_lt_of_le this hw }
  exact {
    st := hst, size := hw, F := rfl, yl := rfl, outer := rfl, os := hos, tape := htape, output := hout, far := far, rng := rng
    A := fun _ _ h => .inl h
    cells := fun b' cs' _ h => by obtain ⟨h0, h1⟩ := hcell _ _ (by simp) h; exact ⟨cs', h0, h1⟩
    rows := hrow
    maps := fun b' ks vs _ h => by obtain ⟨h0, h1⟩ := hcell _ _ (by simp) h; exact ⟨ks, vs, h0, h1⟩
    kind := fun b' g0 sz0 p0 es0 g1 _ h => by
      rcases hany b' _ h with ⟨_, h0⟩ | ⟨rfl, hx⟩
      · exact ⟨g0, sz0, p0, es0, h0, Nat.le_refl _⟩
      · cases hx; exact ⟨g, sz, p, es, hb, by omega⟩ }

/-- a nil row of the call's own is laid: nothing in memory yet -/
def virtG (G : Gh) (b sz : Nat) : Gh :=
  { G with H := G.H.put b (.sl 0 sz true []), ι := fun b' => if b' = b then none else G.ι b', A := fun b' g => G.A b' g ∨ (b' = b ∧ g = 0) }
theorem LStep.virt {G : Gh} (hS : StRel G) {b sz : Nat} (hsz : 0 < sz) (hA : ∀ g, ¬ G.A b g) : LStep G (virtG G b sz) := by
  have hany : ∀ b' y, (virtG G b sz).H.get b' = some y → (b' ≠ b ∧ G.H.get b' = some y) ∨ (b' = b ∧ y = .sl 0 sz true []) := by
    intro b' y h
    simp only [virtG, get_put] at h
    by_cases hbb : b' = b
    · rw [if_pos hbb] at h; cases h; exact .inr ⟨hbb, rfl⟩
    · rw [if_neg hbb] at h; exact .inl ⟨hbb, h⟩
  have hold : ∀ b' y g, G.A b' g → (virtG G b sz).H.get b' = some y → G.H.get b' = some y ∧ (virtG G b sz).ι b' = G.ι b' := by
    intro b' y g ha h
    rcases hany b' y h with ⟨hne, h0⟩ | ⟨rfl, _⟩
    · exact ⟨h0, by simp [virtG, hne]⟩
    · exact absurd ha (hA g)
  have rng : ∀ b' y B', (virtG G b sz).H.get b' = some y → (virtG G b sz).ι b' = some B' → (∃ b0 x0, G.H.get b0 = some x0 ∧ G.ι b0 = some B') ∨ G.w.heap.size ≤ B' := by
    intro b' y B' h h'
    rcases hany b' y h with ⟨hne, h0⟩ | ⟨rfl, _⟩
    · simp only [virtG, if_neg hne] at h'; exact .inl ⟨b', y, h0, h'⟩
    · simp [virtG] at h'
  have hrow : ∀ b' g sz0 p es', G.A b' g → (virtG G b sz).H.get b' = some (.sl g sz0 p es') →
      ∃ p0 es, G.H.get b' = some (.sl g sz0 p0 es) ∧ es.length = es'.length ∧ (virtG G b sz).ι b' = G.ι b' ∧ ∀ B, G.ι b' = some B → bsz G.w B ≤ bsz (virtG G b sz).w B := by
    intro b' g sz0 p es' ha h
    obtain ⟨h0, h1⟩ := hold b' _ g ha h
    exact ⟨p, es', h0, rfl, h1, fun B hB => Nat.le_refl _⟩
  have he : Ext G (virtG G b sz) := {
    size := Nat.le_refl _
    still := still_of rfl (fun _ _ _ => rfl) rng
    next := by rintro b g b' g' ha he; cases he; exact .inl ha
    cells := by rintro b b' g' cs' ha he h; cases he; obtain ⟨h0, h1⟩ := hold _ _ _ ha h; exact ⟨cs', h0, h1⟩
    rows := by rintro b g b' g' sz p es' ha he h; cases he; exact hrow _ _ _ _ _ ha h
    maps := by rintro b b' g' ks vs ha he h; cases he; obtain ⟨h0, h1⟩ := hold _ _ _ ha h; exact ⟨ks, vs, h0, h1⟩
    yl := .inr rfl
    zero := by rintro b b' g' ha he; cases he; exact fun h => h }
  have hst : StRel (virtG G b sz) := {
    next := fun b' g' ha => by
      simp only [virtG, next_put]
      rcases ha with ha | ⟨rfl, _⟩
      · have := hS.next b' g' ha; omega
      · omega
    here := fun b' y h => by
      rcases hany b' y h with ⟨_, h0⟩ | ⟨rfl, rfl⟩
      · exact .inl (hS.here b' y h0)
      · exact .inr ⟨rfl, rfl⟩
    gen := fun b' g sz0 p es g' h ha => by
      rcases hany b' _ h with ⟨hne, h0⟩ | ⟨rfl, hx⟩
      · rcases ha with ha | ⟨rfl, _⟩
        · exact hS.gen b' g sz0 p es g' h0 ha
        · exact absurd rfl hne
      · cases hx
        rcases ha with ha | ⟨_, hg⟩
        · exact absurd ha (hA _)
        · omega
    blk := fun b' y h => by
      rcases hany b' y h with ⟨hne, h0⟩ | ⟨rfl, rfl⟩
      · exact (hS.blk b' y h0).mv he (by simp [virtG, hne]) (fun _ _ _ h => h) fun B hB hl => rfl
      · exact ⟨⟨hsz, by simp⟩, .inl ⟨by simp [virtG], rfl⟩⟩
    inj := fun b1 b2 y1 y2 B' h1 h2 i1 i2 => by
      rcases hany b1 y1 h1 with ⟨n1, k1⟩ | ⟨rfl, rfl⟩ <;> rcases hany b2 y2 h2 with ⟨n2, k2⟩ | ⟨rfl, rfl⟩
      · simp only [virtG, if_neg n1] at i1; simp only [virtG, if_neg n2] at i2
        exact hS.inj b1 b2 y1 y2 B' k1 k2 i1 i2
      · simp [virtG] at i2
      · simp [virtG] at i1
      · rfl
    low := hS.low }
  exact {
    st := hst, size := Nat.le_refl _, F := rfl, yl := rfl, outer := rfl, os := rfl, tape := rfl, output := rfl, far := fun _ _ _ => rfl, rng := rng
    A := fun _ _ h => .inl h
    cells := fun b' cs' ha h => by obtain ⟨h0, h1⟩ := hold _ _ _ ha h; exact ⟨cs', h0, h1⟩
    rows := hrow
    maps := fun b' ks vs ha h => by obtain ⟨h0, h1⟩ := hold _ _ _ ha h; exact ⟨ks, vs, h0, h1⟩
    kind := fun b' g sz p es' g1 ha h => by obtain ⟨h0, _⟩ := hold _ _ _ ha h; exact ⟨g, sz, p, es', h0, Nat.le_refl _⟩ }
end Go.Am
namespace Go.Am
section pure
variable {P : Program} {w : World}

theorem run_und {t : TypeId} {d : TypeDesc} (h : P.underlying t = some d) : (underlying t).run P w = .ok d w := by simp [underlying, h]
theorem run_info {t : TypeId} {i : TypeInfo} (h : P.info? t = some i) : (typeInfo t).run P w = .ok i w := by simp [typeInfo, h]
theorem size_some {t : TypeId} {n : Nat} (h : size? P t = some n) : ∃ i, P.info? t = some i ∧ i.size = n := by
  simpa [size?, Option.map_eq_some_iff] using h
theorem run_size {t : TypeId} {n : Nat} (h : size? P t = some n) : (sizeOf t).run P w = .ok n w := by
  obtain ⟨i, hi, rfl⟩ := size_some h
  simp [sizeOf, run_info hi]
theorem run_isAgg {t : TypeId} {d : TypeDesc} (h : P.underlying t = some d) : (isAgg t).run P w = .ok (aggT P t) w := by
  simp only [isAgg, Sem.run_bind, run_und h, Result.andThen_ok, aggT, h]
  cases d <;> simp

theorem VRel.cellsAgg {G : Gh} {cs : List AV} {v : Value} (h : VRel G (.agg cs) v) : ∃ vs : Array Value, v = .agg vs ∧ cs.length = vs.size ∧ ∀ (i : Nat) c u, cs[i]? = some c → vs[i]? = some u → VRel G c u := by
  cases h with
  | agg cs vs hl h => exact ⟨vs, rfl, hl, h⟩

theorem get_some_of {vs : Array Value} {i : Nat} (h : i < vs.size) : vs[i]? = some vs[i] := Array.getElem?_eq_getElem h

theorem part_sound {G : Gh} {t : TypeId} {cs : List AV} {vs : Array Value} {off : Nat} {u : AV} (h : part P t cs off = some u) (hl : cs.length = vs.size)
    (hr : ∀ (i : Nat) c v, cs[i]? = some c → vs[i]? = some v → VRel G c v) : ∃ c, (Go.part t vs off).run P w = .ok c w ∧ VRel G u c := by
  unfold part at h
  split at h
  · cases h
  · rename_i d hd
    unfold Go.part
    simp only [Sem.run_bind, run_isAgg hd, Result.andThen_ok]
    split at h
    · rename_i ha
      simp only [Option.bind_eq_some_iff] at h
      obtain ⟨n, hn, h⟩ := h
      split at h
      · rename_i hle
        cases h
        refine ⟨.agg (vs.extract off (off + n)), by simp [ha, run_size hn], .agg _ _ (by simp; omega) fun i c v hc hv => ?_⟩
        have hi : i < n := by
          have := (List.getElem?_eq_some_iff.1 hc).1
          simp at this; omega
        rw [List.getElem?_take, if_pos hi, List.getElem?_drop] at hc
        rw [Array.getElem?_extract] at hv
        split at hv
        · exact hr (off + i) c v hc hv
        · cases hv
      · cases h
    · rename_i ha
      have hlt := (List.getElem?_eq_some_iff.1 h).1
      have hv := get_some_of (vs := vs) (i := off) (by omega)
      refine ⟨vs[off]'(by omega), ?_, hr off u _ h hv⟩
      have ha' : aggT P t = false := by simpa using ha
      simp [ha', hv]

theorem ofConst1_rel (G : Gh) (v : Value) : VRel G (ofConst1 v) v := by
  unfold ofConst1
  split
  · exact .bool _
  · exact .int _ _
  · exact .str _
  · exact .nils
  · exact .nilp
  · exact .nilm
  · exact .nilf
  · split
    · rename_i f first cap h
      simp only [Bool.and_eq_true, Array.isEmpty_iff] at h
      obtain ⟨rfl, rfl⟩ := h
      exact .fn _ _ _ _ _ rfl rfl (by simp) (by simp)
    · exact .undef _
  · exact .undef _
theorem ofConst_rel (G : Gh) (v : Value) : VRel G (ofConst v) v := by
  unfold ofConst
  split
  · rename_i cs
    refine .agg _ _ (by simp) fun i c v hc hv => ?_
    rw [List.getElem?_map] at hc
    have : cs.toList[i]? = some v := by simpa using hv
    rw [this] at hc; cases hc
    exact ofConst1_rel G v
  · exact ofConst1_rel G _
theorem ofConst1_free (v : Value) : (ofConst1 v).refFree = true := by
  unfold ofConst1
  split <;> try rfl
  split <;> rfl
theorem ofConst_free (v : Value) : (ofConst v).refFree = true := by
  unfold ofConst
  split
  · simp only [AV.refFree, AV.refFreeL_iff]
    intro x hx
    simp only [List.mem_map] at hx
    obtain ⟨y, _, rfl⟩ := hx
    exact ofConst1_free y
  · exact ofConst1_free _
theorem zero_some {t : TypeId} {z : AV} (h : zero? P t = some z) : ∃ i v, P.info? t = some i ∧ i.zero = some v ∧ z = ofConst v := by
  simp only [zero?, Option.map_eq_some_iff, Option.bind_eq_some_iff] at h
  obtain ⟨v, ⟨i, hi, hv⟩, rfl⟩ := h
  exact ⟨i, v, hi, hv, rfl⟩
theorem run_zero {t : TypeId} {z : AV} (G : Gh) (h : zero? P t = some z) : ∃ v, (zeroValue t).run P w = .ok v w ∧ VRel G z v ∧ z = ofConst v := by
  obtain ⟨i, v, hi, hv, rfl⟩ := zero_some h
  exact ⟨v, by simp [zeroValue, run_info hi, hv], ofConst_rel G v, rfl⟩

theorem intBin_sound {G : Gh} {op : BinOp} {k : IntKind} {a b : Int} {v : AV} (h : intBin op k a b = some v) (hs : op ≠ .shl ∧ op ≠ .shr) (t : TypeId) :
    ∃ c, (binOp op t (.int k a) (.int k b)).run P w = .ok c w ∧ VRel G v c := by
  cases op <;> simp only [intBin] at h <;> first
    | (cases h; exact ⟨_, by simp [binOp, Op.intArith, Op.intBits, Op.intCmp], VRel.int _ _⟩)
    | (cases h; exact ⟨_, by simp [binOp, Op.intArith, Op.intBits, Op.intCmp], VRel.bool _⟩)
    | (split at h
       · cases h
       · rename_i hb; cases h; exact ⟨_, by simp [binOp, Op.intDiv, hb], .int _ _⟩)
    | (simp at hs)
end pure
end Go.Am
namespace Go.Am
section pure
variable {P : Program} {w : World}

theorem fold_none {α : Type} (g : α → Option Bool) : ∀ l : List α, l.foldl (fun acc x => acc.bind fun (q : Bool) => if q then g x else some false) none = none
  | [] => rfl
  | x :: r => by simp only [List.foldl_cons, Option.bind_none]; exact fold_none g r
theorem fold_false {α : Type} (g : α → Option Bool) : ∀ l : List α, l.foldl (fun acc x => acc.bind fun (q : Bool) => if q then g x else some false) (some false) = some false
  | [] => rfl
  | x :: r => by simp only [List.foldl_cons, Option.bind_some, Bool.false_eq_true, if_false]; exact fold_false g r
theorem forIn_all {α : Type} (g : α → Option Bool) (body : α → Option Bool × Unit → Sem (ForInStep (Option Bool × Unit))) :
    ∀ (l : List α) (r : Bool), (∀ x b s, x ∈ l → g x = some b → (body x s).run P w = .ok (if b then .yield (none, ()) else .done (some false, ())) w) →
      l.foldl (fun acc x => acc.bind fun (q : Bool) => if q then g x else some false) (some true) = some r →
      (forIn l (none, ()) body : Sem (Option Bool × Unit)).run P w = .ok (if r then (none, ()) else (some false, ())) w
  | [], r, _, h => by simp only [List.foldl_nil] at h; cases h; simp
  | x :: l, r, hb, h => by
    simp only [List.foldl_cons, Option.bind_some, if_true] at h
    cases hx : g x with
    | none => rw [hx, fold_none] at h; cases h
    | some b =>
      have h0 := hb x b (none, ()) (by simp) hx
      rw [List.forIn_cons, Sem.run_bind, h0]
      cases b with
      | true =>
        rw [hx] at h
        simp only [Result.andThen_ok, if_true]
        exact forIn_all g body l r (fun y c s hy => hb y c s (by simp [hy])) h
      | false =>
        rw [hx, fold_false] at h; cases h
        simp

theorem aeq_sound {G : Gh} : ∀ (n d : Nat) (t : TypeId) (x y : AV) (a c : Value) (b : Bool), n ≤ d → aeq P n t x y = some b → VRel G x a → VRel G y c → (Op.equalIn d t a c).run P w = .ok b w
  | 0, _, _, _, _, _, _, _, _, h, _, _ => by simp [aeq] at h
  | n + 1, 0, _, _, _, _, _, _, hd, _, _, _ => by omega
  | n + 1, d + 1, t, x, y, a, c, b, hd, h, hx, hy => by
    unfold aeq at h
    split at h
    · rename_i hu
      cases h; cases hx; cases hy
      simp [Op.equalIn, run_und hu]
    · rename_i hu
      split at h
      · rename_i k k0 a0 l b0 hk
        subst hk
        cases h; cases hx; cases hy
        simp [Op.equalIn, run_und hu]
      · cases h
    · rename_i hu
      cases h; cases hx; cases hy
      simp [Op.equalIn, run_und hu]
    · rename_i fs xs ys hu
      split at h
      · cases h
      · rename_i hs
        have hs' : P.stoodInHeld t = false := by simpa using hs
        obtain ⟨va, rfl, hla, hra⟩ := hx.cellsAgg
        obtain ⟨vc, rfl, hlc, hrc⟩ := hy.cellsAgg
        simp only [Op.equalIn, Sem.run_bind, run_und hu, Result.andThen_ok, run_program, hs', Bool.false_eq_true, if_false]
        rw [← Array.forIn_toList]
        rw [forIn_all (P := P) (w := w) _ _ _ b (fun f q s hf hg => ?_) h]
        · cases b <;> simp
        · by_cases hname : f.name = "_"
          · simp only [hname, if_true] at hg; cases hg; simp [hname]
          · simp only [hname, if_false, Option.bind_eq_some_iff] at hg
            obtain ⟨u, hu', v, hv', hq⟩ := hg
            obtain ⟨cu, h1, h2⟩ := part_sound (P := P) (w := w) hu' hla hra
            obtain ⟨cv, h3, h4⟩ := part_sound (P := P) (w := w) hv' hlc hrc
            have h5 := aeq_sound n d f.type u v cu cv q (by omega) hq h2 h4
            simp only [ne_eq, hname, not_false_eq_true, if_true, Sem.run_bind, h1, h3, h5, Result.andThen_ok]
            cases q <;> simp
    · rename_i len e xs ys hu
      simp only [Option.bind_eq_some_iff] at h
      obtain ⟨n', hn', h⟩ := h
      obtain ⟨va, rfl, hla, hra⟩ := hx.cellsAgg
      obtain ⟨vc, rfl, hlc, hrc⟩ := hy.cellsAgg
      simp only [Op.equalIn, Sem.run_bind, run_und hu, Result.andThen_ok, run_size hn']
      have hr : (List.range' 0 len) = List.range len := by rw [List.range_eq_range']
      rw [Std.Legacy.Range.forIn_eq_forIn_range']
      simp only [Std.Legacy.Range.size, Nat.sub_zero, Nat.add_sub_cancel, Nat.div_one]
      rw [hr, forIn_all (P := P) (w := w) _ _ _ b (fun i q s hf hg => ?_) h]
      · cases b <;> simp
      · simp only [Option.bind_eq_some_iff] at hg
        obtain ⟨u, hu', v, hv', hq⟩ := hg
        obtain ⟨cu, h1, h2⟩ := part_sound (P := P) (w := w) hu' hla hra
        obtain ⟨cv, h3, h4⟩ := part_sound (P := P) (w := w) hv' hlc hrc
        have h5 := aeq_sound n d e u v cu cv q (by omega) hq h2 h4
        simp only [Sem.run_bind, h1, h3, h5, Result.andThen_ok]
        cases q <;> simp
    · cases h

theorem liveP_sound {G : Gh} {x : AV} {a : Value} (h : liveP x G.H = true) (hx : VRel G x a) (hS : StRel G) : ∃ ad : Addr, a = .pointer (some ad) ∧ ad.spot = none := by
  unfold liveP at h
  split at h
  · cases hx; exact ⟨_, rfl, rfl⟩
  · rename_i b off
    cases hx with
    | hp _ _ v hb h1 hh =>
      split at h
      · rename_i cs hcs
        obtain ⟨B, _, rfl⟩ := hh cs hcs
        exact ⟨_, rfl, rfl⟩
      · cases h
  · rename_i b g i off
    cases hx with
    | he _ _ _ _ v hb h1 hh =>
      split at h
      · rename_i g' sz p es hcs
        simp only [Bool.and_eq_true, decide_eq_true_eq] at h
        obtain ⟨rfl, hi⟩ := h
        obtain ⟨B, _, rfl⟩ := hh sz p es hcs hi
        exact ⟨_, rfl, rfl⟩
      · cases h
  · cases h
end pure
end Go.Am
namespace Go.Am
section pure
variable {P : Program} {w : World}

theorem equalIn_nil {G : Gh} {t : TypeId} {x y : AV} {b : Bool} {a c : Value} (d : Nat) (h : eqNil P t x y G.H = some b) (hS : StRel G) (hx : VRel G x a) (hy : VRel G y c) :
    (Op.equalIn (d + 1) t a c).run P w = .ok b w := by
  unfold eqNil at h
  split at h
  · rename_i e hu
    split at h
    · cases h; cases hx; cases hy; simp [Op.equalIn, run_und hu]
    · cases h; cases hx; cases hy; simp [Op.equalIn, run_und hu]
    · cases h; cases hy
      cases hx with
      | vs es a cap B off sz cv hcap ha hok hc hr =>
        rcases ha with ha | ⟨rfl, _⟩
        · simp at ha
        · simp [Op.equalIn, run_und hu]
    · split at h
      · rename_i b0 g g' sz p e0 r hb
        split at h
        · rename_i hg; subst hg; cases h; cases hy
          cases hx with
          | hs _ _ v hb' h1 hh =>
            obtain ⟨a, cap, rfl, _, h2⟩ := hh _ _ _ hb
            rcases h2 with ⟨hi, _⟩ | ⟨B, _, rfl, _⟩
            · obtain ⟨_, ⟨_, hne⟩ | ⟨B, hB, _⟩⟩ := hS.blk _ _ hb
              · cases hne
              · rw [hi] at hB; cases hB
            · simp [Op.equalIn, run_und hu]
        · cases h
      · cases h
    · cases h
  · rename_i e hu
    split at h
    · cases h; cases hx; cases hy; simp [Op.equalIn, run_und hu]
    · split at h
      · rename_i hl
        cases h; cases hy
        obtain ⟨ad, rfl, _⟩ := liveP_sound hl hx hS
        simp [Op.equalIn, run_und hu]
      · cases h
    · cases h
  · rename_i k e hu
    split at h
    · cases h; cases hx; cases hy; simp [Op.equalIn, run_und hu]
    · cases h; cases hx; cases hy; simp [Op.equalIn, run_und hu]
    · cases h
  · rename_i hu
    split at h
    · cases h; cases hx; cases hy; simp [Op.equalIn, run_und hu]
    · cases h; cases hx; cases hy; simp [Op.equalIn, run_und hu]
    · cases h
  · cases h

theorem equal_in (t : TypeId) (a c : Value) : Op.equal t a c = Op.equalIn (9999 + 1) t a c := rfl
theorem equal_nil {G : Gh} {t : TypeId} {x y : AV} {b : Bool} {a c : Value} (h : eqNil P t x y G.H = some b) (hS : StRel G) (hx : VRel G x a) (hy : VRel G y c) :
    (Op.equal t a c).run P w = .ok b w := by
  rw [equal_in]; exact equalIn_nil _ h hS hx hy
theorem equalIn_bool {t : TypeId} (d : Nat) (a c : Bool) (hu : P.underlying t = some .bool) : (Op.equalIn (d + 1) t (.bool a) (.bool c)).run P w = .ok (a == c) w := by
  simp [Op.equalIn, run_und hu]
theorem equal_bool {t : TypeId} (a c : Bool) (hu : P.underlying t = some .bool) : (Op.equal t (.bool a) (.bool c)).run P w = .ok (a == c) w := by
  rw [equal_in]; exact equalIn_bool _ a c hu

theorem eqGuard_other {op : BinOp} {t : TypeId} {X Y : Operand} {a c : Value} (h : ∀ xs ys, a = .agg xs → c = .agg ys → P.eqGuardType P.depth t = false) (h2 : a = .nilIface → c = .nilIface → False) :
    (eqGuard op t X Y a c).run P w = .ok () w := by
  cases op <;> (try (simp [eqGuard]; done))
  all_goals
    simp only [eqGuard]
    split
    · simp_all
    · split
      · exact (h2 rfl rfl).elim
      · rename_i xs ys
        simp [h xs ys rfl rfl]
      · simp

theorem binOp_eq {G : Gh} {t : TypeId} {a c : Value} {b : Bool} (hi : ∀ k n l m, ¬ (a = .int k n ∧ c = .int l m)) (hf : ∀ k n l m, ¬ (a = .float k n ∧ c = .float l m))
    (hc : ∀ k n o l m p, ¬ (a = .complex k n o ∧ c = .complex l m p)) (hs : ∀ s r, ¬ (a = .string s ∧ c = .string r))
    (h : (Op.equal t a c).run P w = .ok b w) : (binOp .eql t a c).run P w = .ok (.bool b) w ∧ (binOp .neq t a c).run P w = .ok (.bool !b) w := by
  constructor
  all_goals
    unfold binOp
    split <;> first
      | exact absurd ⟨rfl, rfl⟩ (hi _ _ _ _)
      | exact absurd ⟨rfl, rfl⟩ (hf _ _ _ _)
      | exact absurd ⟨rfl, rfl⟩ (hc _ _ _ _ _ _)
      | exact absurd ⟨rfl, rfl⟩ (hs _ _)
      | simp_all

theorem pBin_sound {G : Gh} {op : BinOp} {t : TypeId} {x y v : AV} {a c : Value} {X Y : Operand} (h : pBin P op t x y G.H = some v) (hS : StRel G) (hx : VRel G x a) (hy : VRel G y c) :
    ∃ u, (do eqGuard op t X Y a c; binOp op t a c : Sem Value).run P w = .ok u w ∧ VRel G v u := by
  unfold pBin at h
  split at h
  · split at h
    · cases h
    · rename_i hb; cases h; cases hx; cases hy
      exact ⟨_, by simp [eqGuard, binOp, Op.shift, hb], VRel.int _ _⟩
  · split at h
    · cases h
    · rename_i hb; cases h; cases hx; cases hy
      exact ⟨_, by simp [eqGuard, binOp, Op.shift, hb], VRel.int _ _⟩
  · rename_i k a0 l b0 h1 h2
    split at h
    · rename_i hk; subst hk; cases hx; cases hy
      obtain ⟨u, hu, hv⟩ := intBin_sound (P := P) (w := w) (G := G) h ⟨fun e => h1 e, fun e => h2 e⟩ t
      refine ⟨u, ?_, hv⟩
      rw [Sem.run_bind, eqGuard_other (by simp) (by simp)]
      exact hu
    · cases h
  · rename_i xs ys h1 h2 h3
    split at h
    · cases h
    · rename_i hg
      simp only [Option.map_eq_some_iff] at h
      obtain ⟨b, hb, rfl⟩ := h
      have heq := aeq_sound (P := P) (w := w) (G := G) 10 10000 t _ _ a c b (by omega) hb hx hy
      obtain ⟨va, rfl, _, _⟩ := hx.cellsAgg
      obtain ⟨vc, rfl, _, _⟩ := hy.cellsAgg
      have := binOp_eq (P := P) (w := w) (G := G) (t := t) (a := .agg va) (c := .agg vc) (b := b) (by simp) (by simp) (by simp) (by simp) heq
      refine ⟨_, ?_, VRel.bool b⟩
      rw [Sem.run_bind, eqGuard_other (fun _ _ _ _ => by simpa using hg) (by simp)]
      exact this.1
  · rename_i xs ys h1 h2 h3
    split at h
    · cases h
    · rename_i hg
      simp only [Option.map_eq_some_iff] at h
      obtain ⟨b, hb, rfl⟩ := h
      have heq := aeq_sound (P := P) (w := w) (G := G) 10 10000 t _ _ a c b (by omega) hb hx hy
      obtain ⟨va, rfl, _, _⟩ := hx.cellsAgg
      obtain ⟨vc, rfl, _, _⟩ := hy.cellsAgg
      have := binOp_eq (P := P) (w := w) (G := G) (t := t) (a := .agg va) (c := .agg vc) (b := b) (by simp) (by simp) (by simp) (by simp) heq
      refine ⟨_, ?_, VRel.bool _⟩
      rw [Sem.run_bind, eqGuard_other (fun _ _ _ _ => by simpa using hg) (by simp)]
      exact this.2
  · rename_i a0 b0
    split at h
    · rename_i hu
      cases h; cases hx; cases hy
      have hu' : P.underlying t = some .bool := by
        revert hu; cases P.underlying t with
        | none => simp
        | some d => cases d <;> simp
      have heq := equal_bool (P := P) (w := w) a0 b0 hu'
      refine ⟨_, ?_, VRel.bool _⟩
      rw [Sem.run_bind, eqGuard_other (by simp) (by simp)]
      exact (binOp_eq (G := G) (by simp) (by simp) (by simp) (by simp) heq).1
    · cases h
  · rename_i a0 b0
    split at h
    · rename_i hu
      cases h; cases hx; cases hy
      have hu' : P.underlying t = some .bool := by
        revert hu; cases P.underlying t with
        | none => simp
        | some d => cases d <;> simp
      have heq := equal_bool (P := P) (w := w) a0 b0 hu'
      refine ⟨_, ?_, VRel.bool _⟩
      rw [Sem.run_bind, eqGuard_other (by simp) (by simp)]
      exact (binOp_eq (G := G) (by simp) (by simp) (by simp) (by simp) heq).2
    · cases h
  · simp only [Option.map_eq_some_iff] at h
    obtain ⟨b, hb, rfl⟩ := h
    have heq := equal_nil (P := P) (w := w) hb hS hx hy
    have hc : c = .slice none 0 0 ∨ c = .pointer none ∨ c = .map none ∨ c = .nilFunc := by
      unfold eqNil at hb
      (repeat' split at hb) <;> first | (cases hb; done) | (cases hy <;> simp)
    refine ⟨_, ?_, VRel.bool b⟩
    rw [Sem.run_bind, eqGuard_other (by rcases hc with rfl | rfl | rfl | rfl <;> simp) (by rcases hc with rfl | rfl | rfl | rfl <;> simp)]
    exact (binOp_eq (G := G) (by rcases hc with rfl | rfl | rfl | rfl <;> simp) (by rcases hc with rfl | rfl | rfl | rfl <;> simp) (by rcases hc with rfl | rfl | rfl | rfl <;> simp)
      (by rcases hc with rfl | rfl | rfl | rfl <;> simp) heq).1
  · simp only [Option.map_eq_some_iff] at h
    obtain ⟨b, hb, rfl⟩ := h
    have heq := equal_nil (P := P) (w := w) hb hS hx hy
    have hc : c = .slice none 0 0 ∨ c = .pointer none ∨ c = .map none ∨ c = .nilFunc := by
      unfold eqNil at hb
      (repeat' split at hb) <;> first | (cases hb; done) | (cases hy <;> simp)
    refine ⟨_, ?_, VRel.bool _⟩
    rw [Sem.run_bind, eqGuard_other (by rcases hc with rfl | rfl | rfl | rfl <;> simp) (by rcases hc with rfl | rfl | rfl | rfl <;> simp)]
    exact (binOp_eq (G := G) (by rcases hc with rfl | rfl | rfl | rfl <;> simp) (by rcases hc with rfl | rfl | rfl | rfl <;> simp) (by rcases hc with rfl | rfl | rfl | rfl <;> simp)
      (by rcases hc with rfl | rfl | rfl | rfl <;> simp) heq).2
  · cases h
end pure
end Go.Am
namespace Go.Am
section pure
variable {P : Program} {w : World} {G : Gh}

theorem asN_sound {x : AV} {n : Int} {c : Value} (h : asN x = some n) (hx : VRel G x c) : ∃ k, c = .int k n := by
  cases x <;> simp [asN] at h
  subst h; cases hx; exact ⟨_, rfl⟩

theorem pUn_sound {op : UnOp} {x v : AV} {a : Value} (h : pUn op x = some v) (hx : VRel G x a) : ∃ c, (Op.unary op a).run P w = .ok c w ∧ VRel G v c := by
  unfold pUn at h
  split at h
  · cases h; cases hx; exact ⟨_, by simp [Op.unary, Op.intArith], .int _ _⟩
  · cases h; cases hx; exact ⟨_, by simp [Op.unary], .bool _⟩
  · cases h

theorem pConv_sound {s d : TypeId} {x v : AV} {a : Value} (h : pConv P s d x = some v) (hx : VRel G x a) : ∃ c, (convert s d a).run P w = .ok c w ∧ VRel G v c := by
  unfold pConv at h
  split at h
  · rename_i hs hd
    cases h; cases hx
    exact ⟨_, by simp [convert, run_und hs, run_und hd, Conv.intToInt], .int _ _⟩
  · cases h

theorem pPick_sound {c a b v : AV} {cc ca cb : Value} (h : pPick c a b = some v) (hc : VRel G c cc) (ha : VRel G a ca) (hb : VRel G b cb) :
    ∃ u, (do pure (Next.value (if ← asBool cc then ca else cb)) : Sem Next).run P w = .ok (.value u) w ∧ VRel G v u := by
  unfold pPick at h
  split at h
  · rename_i t
    cases h; cases hc
    cases t
    · exact ⟨cb, by simp [asBool], by simpa using hb⟩
    · exact ⟨ca, by simp [asBool], by simpa using ha⟩
  · cases h

theorem pExtract_sound {x v : AV} {i : Nat} {a : Value} (h : pExtract x i = some v) (hx : VRel G x a) : ∃ c, (Instr.extract a i).run P w = .ok c w ∧ VRel G v c := by
  unfold pExtract at h
  split at h
  · rename_i vs
    cases hx with
    | tup _ us hl hr =>
      have hlt := (List.getElem?_eq_some_iff.1 h).1
      have hu := get_some_of (vs := us) (i := i) (by omega)
      exact ⟨us[i]'(by omega), by simp [Instr.extract, hu], hr i v _ h hu⟩
  · cases h

theorem add_zero' (a : Addr) : a.add 0 = a := by simp [Addr.add]

theorem addOff_sound {x v : AV} {n : Nat} {a : Value} (h : addOff x n G.H = some v) (hS : StRel G) (hx : VRel G x a) :
    ∃ ad : Addr, a = .pointer (some ad) ∧ ad.spot = none ∧ VRel G v (.pointer (some (ad.add n))) := by
  unfold addOff at h
  split at h
  · rename_i hl
    unfold liveP at hl
    split at h
    · cases h
      cases hx with
      | ip cs off B o cv hM hB hok hc hr =>
        refine ⟨_, rfl, rfl, ?_⟩
        rw [add_none, Nat.add_assoc]
        exact .ip _ _ B o cv hM hB hok hc hr
    · rename_i b off
      cases h
      cases hx with
      | hp _ _ _ hb h1 hh =>
        simp only at hl
        split at hl
        · rename_i cs hcs
          obtain ⟨B, hi, rfl⟩ := hh cs hcs
          refine ⟨_, rfl, rfl, .hp _ _ _ hb rfl fun cs' hcs' => ⟨B, hi, by rw [add_none]⟩⟩
        · cases hl
    · rename_i b g i off
      cases h
      cases hx with
      | he _ _ _ _ _ hb h1 hh =>
        simp only at hl
        split at hl
        · rename_i g' sz p es hcs
          simp only [Bool.and_eq_true, decide_eq_true_eq] at hl
          obtain ⟨rfl, hi⟩ := hl
          obtain ⟨B, hi', rfl⟩ := hh sz p es hcs hi
          refine ⟨_, rfl, rfl, .he _ _ _ _ _ hb rfl fun sz' p' es' hcs' hi'' => ⟨B, hi', ?_⟩⟩
          rw [hcs] at hcs'; cases hcs'
          rw [add_none, Nat.add_assoc]
        · cases hl
    · cases h
  · cases h

theorem pFieldAddr_sound {s : TypeId} {x v : AV} {f : Nat} {a : Value} (h : pFieldAddr P s x f G.H = some v) (hS : StRel G) (hx : VRel G x a) :
    ∃ c, (Instr.fieldAt s a f).run P w = .ok c w ∧ VRel G v c := by
  unfold pFieldAddr at h
  split at h
  · rename_i fs hu
    simp only [Option.bind_eq_some_iff] at h
    obtain ⟨fd, hfd, n, hn, h⟩ := h
    split at h
    · cases h
    · rename_i hn0
      obtain ⟨ad, rfl, _, hv⟩ := addOff_sound h hS hx
      exact ⟨_, by simp [Instr.fieldAt, run_und hu, hfd, Instr.sureAddr, fieldPlace, run_size hn, hn0], hv⟩
  · cases h

theorem pField_sound {t : TypeId} {x v : AV} {f : Nat} {a : Value} (h : pField P t x f = some v) (hx : VRel G x a) : ∃ c, (Instr.field t a f).run P w = .ok c w ∧ VRel G v c := by
  unfold pField at h
  split at h
  · rename_i fs cs hu
    simp only [Option.bind_eq_some_iff] at h
    obtain ⟨fd, hfd, h⟩ := h
    obtain ⟨va, rfl, hl, hr⟩ := hx.cellsAgg
    obtain ⟨c, h1, h2⟩ := part_sound (P := P) (w := w) h hl hr
    exact ⟨c, by simp [Instr.field, run_und hu, hfd, asAgg, h1], h2⟩
  · cases h

theorem pIndex_sound {t : TypeId} {x i v : AV} {a c : Value} (h : pIndex P t x i = some v) (hx : VRel G x a) (hi : VRel G i c) : ∃ u, (Instr.index t a c).run P w = .ok u w ∧ VRel G v u := by
  unfold pIndex at h
  simp only [Option.bind_eq_some_iff] at h
  obtain ⟨n, hn, h⟩ := h
  obtain ⟨k, rfl⟩ := asN_sound hn hi
  split at h
  · rename_i len e cs hu
    simp only [Option.bind_eq_some_iff] at h
    obtain ⟨sz, hsz, h⟩ := h
    split at h
    · rename_i hlt
      simp only [Bool.and_eq_true, decide_eq_true_eq] at hlt
      obtain ⟨va, rfl, hl, hr⟩ := hx.cellsAgg
      obtain ⟨u, h1, h2⟩ := part_sound (P := P) (w := w) h hl hr
      exact ⟨u, by simp [Instr.index, asIntOf, run_und hu, hlt, run_size hsz, h1], h2⟩
    · cases h
  · rename_i s hu
    split at h
    · rename_i h0
      simp only [Option.map_eq_some_iff] at h
      obtain ⟨b, hb, rfl⟩ := h
      cases hx
      exact ⟨_, by simp [Instr.index, asIntOf, run_und hu, h0, hb], .int _ _⟩
    · cases h
  · cases h

theorem pIndexAddr_sound {t : TypeId} {x i v : AV} {a c : Value} (h : pIndexAddr P t x i G.H = some v) (hS : StRel G) (hx : VRel G x a) (hi : VRel G i c) :
    ∃ u, (Instr.indexAt t a c).run P w = .ok u w ∧ VRel G v u := by
  unfold pIndexAddr at h
  simp only [Option.bind_eq_some_iff] at h
  obtain ⟨n, hn, h⟩ := h
  obtain ⟨k, rfl⟩ := asN_sound hn hi
  split at h
  · rename_i e hu
    simp only [Option.bind_eq_some_iff] at h
    obtain ⟨sz, hsz, h⟩ := h
    split at h
    · cases h
    · rename_i hsz0
      split at h
      · rename_i es
        split at h
        · rename_i hlt
          simp only [Bool.and_eq_true, decide_eq_true_eq] at hlt
          simp only [Option.bind_eq_some_iff] at h
          obtain ⟨y, hy, h⟩ := h
          split at h
          · rename_i hl
            cases h
            cases hx with
            | vs _ a cap B off sz' cv hcap ha hok hc hr =>
              rcases ha with ha | ⟨rfl, hM, hB⟩
              · omega
              · have hsz' := (hok _ _ hy).2
                have : sz' = sz := by omega
                subst this
                refine ⟨.pointer (some ⟨B, off + n.toNat * sz', none⟩), ?_, ?_⟩
                · simp [Instr.indexAt, asIntOf, run_und hu, hlt, run_size hsz, add_none]
                · exact .ip y.cells 0 B (off + n.toNat * sz') (fun j => cv n.toNat j) hM hB (by rw [AV.refFreeL_iff]; exact AV.refFree_cells (AV.okElem_free (hok _ _ hy).1))
                    (fun j c hj => hc _ _ _ _ hy hj) (fun j c hj => hr _ _ _ _ hy hj)
          · cases h
        · cases h
      · rename_i b g
        split at h
        · rename_i g' sz' p es hcs
          split at h
          · rename_i hlt
            simp only [Bool.and_eq_true, decide_eq_true_eq] at hlt
            obtain ⟨⟨⟨rfl, rfl⟩, h0⟩, h1⟩ := hlt
            cases h
            cases hx with
            | hs _ _ _ hb h1' hh =>
              obtain ⟨a, cap, rfl, hcap, hrest⟩ := hh _ _ _ hcs
              rcases hrest with ⟨_, _, rfl⟩ | ⟨B, hi, rfl, _⟩
              · omega
              · refine ⟨.pointer (some ⟨B, 0 + n.toNat * sz', none⟩), ?_, ?_⟩
                · simp [Instr.indexAt, asIntOf, run_und hu, h0, h1, run_size hsz, add_none]
                · refine .he _ _ _ _ _ hb rfl fun sz'' p' es' hcs' hi'' => ⟨B, hi, ?_⟩
                  rw [hcs] at hcs'; cases hcs'
                  simp
          · cases h
        · cases h
      · rename_i b g o m
        split at h
        · rename_i g' sz' p es hcs
          split at h
          · rename_i hlt
            simp only [Bool.and_eq_true, decide_eq_true_eq] at hlt
            obtain ⟨⟨⟨⟨rfl, rfl⟩, h0⟩, h1⟩, hle⟩ := hlt
            cases h
            cases hx with
            | hq _ _ _ _ _ hb h1' hh =>
              obtain ⟨a, cap, rfl, hcap, hrest⟩ := hh _ _ _ hcs hle
              rcases hrest with ⟨rfl, _⟩ | ⟨_, _, rfl, _⟩ | ⟨B, hi, rfl, _⟩
              · omega
              · omega
              · refine ⟨.pointer (some ⟨B, o * sz' + n.toNat * sz', none⟩), ?_, ?_⟩
                · simp [Instr.indexAt, asIntOf, run_und hu, h0, h1, run_size hsz, add_none]
                · refine .he _ _ _ _ _ hb rfl fun sz'' p' es' hcs' hi'' => ⟨B, hi, ?_⟩
                  rw [hcs] at hcs'; cases hcs'
                  simp [Nat.add_mul]
          · cases h
        · cases h
      · cases h
  · rename_i len e hu
    simp only [Option.bind_eq_some_iff] at h
    obtain ⟨sz, hsz, h⟩ := h
    split at h
    · rename_i hlt
      simp only [Bool.and_eq_true, decide_eq_true_eq] at hlt
      obtain ⟨ad, rfl, _, hv⟩ := addOff_sound h hS hx
      exact ⟨_, by simp [Instr.indexAt, asIntOf, run_und hu, hlt, run_size hsz, Instr.sureAddr], hv⟩
    · cases h
  · cases h

theorem pNil_sound {x v : AV} {a : Value} (h : pNil x G.H = some v) (hS : StRel G) (hx : VRel G x a) : VRel G v a ∧ ((∃ ad, a = .pointer (some ad)) ∨ ∃ f fs cs, a = .func (.func f) fs cs) := by
  unfold pNil at h
  split at h
  · cases h; refine ⟨hx, ?_⟩; cases hx; exact .inr ⟨_, _, _, rfl⟩
  · split at h
    · rename_i hl
      cases h
      obtain ⟨ad, rfl, _⟩ := liveP_sound hl hx hS
      exact ⟨hx, .inl ⟨_, rfl⟩⟩
    · cases h

/-! ### rows -/
theorem row_sound {x : AV} {es : List AV} {a : Value} (h : rowOf x G.H = some es) (hx : VRel G x a) : ∃ ad cap, a = .slice ad es.length cap := by
  unfold rowOf at h
  split at h
  · cases h; cases hx; exact ⟨_, _, rfl⟩
  · cases h; cases hx; exact ⟨_, _, rfl⟩
  · cases h; cases hx; exact ⟨_, _, rfl⟩
  · cases h; cases hx; exact ⟨_, _, rfl⟩
  · split at h
    · split at h
      · rename_i hg; subst hg; cases h
        cases hx with
        | hs _ _ _ hb h1 hh => obtain ⟨a, cap, rfl, _⟩ := hh _ _ _ ‹_›; exact ⟨_, _, rfl⟩
      · cases h
    · cases h
  · split at h
    · split at h
      · rename_i hg
        simp only [Bool.and_eq_true, decide_eq_true_eq] at hg
        obtain ⟨rfl, hle⟩ := hg
        cases h
        cases hx with
        | hq _ _ _ _ _ hb h1 hh =>
          obtain ⟨a, cap, rfl, _⟩ := hh _ _ _ ‹_› hle
          refine ⟨a, cap, ?_⟩
          have : ∀ (l : List AV) (o n : Nat), o + n ≤ l.length → ((l.drop o).take n).length = n := by intro l o n h; simp; omega
          rw [this _ _ _ hle]
      · cases h
    · cases h
  · cases h

theorem pLen_sound {t ty : TypeId} {x v : AV} {a : Value} (h : pLen P t x G.H = some v) (hS : StRel G) (hx : VRel G x a) :
    ∃ c, (Builtin.len_ #[t] ty #[a]).run P G.w = .ok c G.w ∧ VRel G v c := by
  unfold pLen at h
  split at h
  · rename_i e hu
    simp only [Option.map_eq_some_iff] at h
    obtain ⟨es, hes, rfl⟩ := h
    obtain ⟨ad, cap, rfl⟩ := row_sound hes hx
    exact ⟨_, by simp only [Builtin.len_]; simp [run_und hu]; rfl, .int _ _⟩
  · rename_i hu
    split at h
    · cases h; cases hx; exact ⟨_, by simp only [Builtin.len_]; simp [run_und hu]; rfl, .int _ _⟩
    · cases h
  · rename_i n e hu
    cases h
    exact ⟨goInt n, by simp [Builtin.len_, run_und hu], .int _ _⟩
  · rename_i k e hu
    split at h
    · cases h; cases hx; exact ⟨_, by simp only [Builtin.len_]; simp [run_und hu]; rfl, .int _ _⟩
    · cases h
      cases hx with
      | fm ks vs r es clock hM hB hw hk hv hok hok' h1 h2 =>
        refine ⟨goInt es.size, by simp [Builtin.len_, run_und hu, getObj, Sem.run, hw], ?_⟩
        rw [hk]; exact .int _ _
    · rename_i b
      split at h
      · rename_i ks vs hb
        cases h
        cases hx with
        | hm _ _ hb' h1 hh =>
          obtain ⟨B, hi, rfl⟩ := hh _ _ hb
          obtain ⟨B', hi', hlt, _, es, clock, hw, hk, _⟩ := hS.blk _ _ hb
          rw [hi] at hi'; cases hi'
          refine ⟨goInt es.size, by simp [Builtin.len_, run_und hu, getObj, Sem.run, hw], ?_⟩
          rw [hk]; exact .int _ _
      · cases h
    · cases h
  · cases h

theorem min2_sound {a b v : AV} {x y : Value} (h : min2 a b = some v) (ha : VRel G a x) (hb : VRel G b y) : ∃ u, (Builtin.min2 x y).run P w = .ok u w ∧ VRel G v u := by
  unfold min2 at h
  split at h
  · cases h; cases ha; cases hb; exact ⟨_, by simp [Builtin.min2], .int _ _⟩
  · cases h
theorem max2_sound {a b v : AV} {x y : Value} (h : max2 a b = some v) (ha : VRel G a x) (hb : VRel G b y) : ∃ u, (Builtin.max2 x y).run P w = .ok u w ∧ VRel G v u := by
  unfold max2 at h
  split at h
  · cases h; cases ha; cases hb; exact ⟨_, by simp [Builtin.max2], .int _ _⟩
  · cases h
end pure
end Go.Am
namespace Go.Am
section pure
variable {P : Program} {w : World} {G : Gh}

def ORel (G : Gh) : Option AV → Option Value → Prop
  | none, none => True
  | some x, some v => VRel G x v
  | _, _ => False
theorem natIn_some {n : Int} {hi k : Nat} (h : natIn n hi = some k) : 0 ≤ n ∧ n ≤ (hi : Int) ∧ n.toNat = k := by
  unfold natIn at h
  split at h
  · rename_i hc; simp only [Bool.and_eq_true, decide_eq_true_eq] at hc; cases h; exact ⟨hc.1, hc.2, rfl⟩
  · cases h
theorem bound_sound {x : AV} {d hi k : Nat} {c : Value} (h : bound? (some x) d hi = some k) (hx : VRel G x c) (y : Nat) (hy : hi ≤ y) (code : BoundsCode) :
    (Instr.sliceBound c y code).run P w = .ok k w ∧ k ≤ hi := by
  simp only [bound?, Option.bind_eq_some_iff] at h
  obtain ⟨n, hn, h⟩ := h
  obtain ⟨k', rfl⟩ := asN_sound hn hx
  obtain ⟨h0, h1, rfl⟩ := natIn_some h
  have : n ≤ (y : Int) := by omega
  exact ⟨by simp [Instr.sliceBound, asIntOf, h0, this], by omega⟩
theorem bounds2_sound {lo hi : Option AV} {cl ch : Option Value} {len cap h l : Nat} (hh : bound? hi len len = some h) (hl : bound? lo 0 h = some l) (rl : ORel G lo cl) (rh : ORel G hi ch) (hc : len ≤ cap) :
    (Instr.sliceBounds true len cap cl ch none).run P w = .ok (l, h, cap) w ∧ l ≤ h ∧ h ≤ len := by
  cases hi with
  | none =>
    cases ch with
    | some _ => exact rh.elim
    | none =>
      simp only [bound?] at hh; cases hh
      cases lo with
      | none =>
        cases cl with
        | some _ => exact rl.elim
        | none => simp only [bound?] at hl; cases hl; exact ⟨by simp [Instr.sliceBounds], by omega, by omega⟩
      | some x =>
        cases cl with
        | none => exact rl.elim
        | some v =>
          have := bound_sound (P := P) (w := w) hl rl len (Nat.le_refl _) .sliceB
          exact ⟨by simp [Instr.sliceBounds, this.1], this.2, Nat.le_refl _⟩
  | some y =>
    cases ch with
    | none => exact rh.elim
    | some u =>
      have hq := bound_sound (P := P) (w := w) hh rh cap hc .sliceAcap
      cases lo with
      | none =>
        cases cl with
        | some _ => exact rl.elim
        | none => simp only [bound?] at hl; cases hl; exact ⟨by simp [Instr.sliceBounds, hq.1], by omega, hq.2⟩
      | some x =>
        cases cl with
        | none => exact rl.elim
        | some v =>
          have := bound_sound (P := P) (w := w) hl rl h (Nat.le_refl _) .sliceB
          exact ⟨by simp [Instr.sliceBounds, hq.1, this.1], this.2, hq.2⟩
theorem bounds3_sound {lo hi : Option AV} {m : AV} {cl ch : Option Value} {cm : Value} {len n cap k h l : Nat} (hk : bound? (some m) 0 n = some k) (hh : bound? hi 0 k = some h) (hl : bound? lo 0 h = some l)
    (hs : hi.isSome = true) (rm : VRel G m cm) (rl : ORel G lo cl) (rh : ORel G hi ch) (hc : n ≤ cap) :
    (Instr.sliceBounds true len cap cl ch (some cm)).run P w = .ok (l, h, k) w ∧ l ≤ h ∧ h ≤ k ∧ k ≤ n := by
  have hm := bound_sound (P := P) (w := w) hk rm cap hc .slice3Acap
  cases hi with
  | none => cases hs
  | some y =>
    cases ch with
    | none => exact rh.elim
    | some u =>
      have hq := bound_sound (P := P) (w := w) hh rh k (Nat.le_refl _) .slice3B
      cases lo with
      | none =>
        cases cl with
        | some _ => exact rl.elim
        | none => simp only [bound?] at hl; cases hl; exact ⟨by simp [Instr.sliceBounds, hq.1, hm.1], by omega, hq.2, hm.2⟩
      | some x =>
        cases cl with
        | none => exact rl.elim
        | some v =>
          have := bound_sound (P := P) (w := w) hl rl h (Nat.le_refl _) .slice3C
          exact ⟨by simp [Instr.sliceBounds, hq.1, hm.1, this.1], this.2, hq.2, hm.2⟩

/-- the value that a slicing hands back -/
def slV (a : Option Addr) (l h m size : Nat) : Value := .slice (if m = l then a else a.map (·.add (l * size))) (h - l) (m - l)
theorem run_sliceAt {t e : TypeId} {size len cap l h m : Nat} {a : Option Addr} {cl ch cm : Option Value} (hu : P.underlying t = some (.slice e)) (hsz : size? P e = some size)
    (hb : (Instr.sliceBounds true len cap cl ch cm).run P w = .ok (l, h, m) w) : (Instr.sliceAt t (.slice a len cap) cl ch cm).run P w = .ok (slV a l h m size) w := by
  simp [Instr.sliceAt, Instr.slice, run_und hu, hb, run_size hsz, slV]

theorem VRel.slice_vs {es : List AV} {a : Option Addr} {cap l h sz : Nat} (hx : VRel G (.vs es) (.slice a es.length cap)) (hd : okHead sz es = true) (hlh : l ≤ h) (hhe : h ≤ es.length) :
    VRel G (.vs ((es.drop l).take (h - l))) (slV a l h cap sz) := by
  cases hx with
  | vs _ _ _ B off sz' cv hcap ha hok hc hr =>
    have hlen : ((es.drop l).take (h - l)).length = h - l := by simp; omega
    have key := VRel.vs (G := G) ((es.drop l).take (h - l)) (if cap = l then a else a.map (·.add (l * sz))) (cap - l) B (off + l * sz) sz (fun i j => cv (l + i) j) (by omega)
      (by
        by_cases h0 : h - l = 0
        · exact .inl (by omega)
        · rcases ha with ha | ⟨rfl, hM, hB⟩
          · omega
          · refine .inr ⟨?_, hM, hB⟩
            rw [if_neg (by omega)]; simp [add_none])
      ?_ ?_ ?_
    · rw [hlen] at key; exact key
    · intro i e he
      have hi := (List.getElem?_eq_some_iff.1 he).1
      rw [hlen] at hi
      rw [List.getElem?_take, if_pos hi, List.getElem?_drop] at he
      refine ⟨(hok _ _ he).1, ?_⟩
      have h2 := (hok _ _ he).2
      cases es with
      | nil => simp at he
      | cons e0 r =>
        have h0 := (hok 0 e0 rfl).2
        simp only [okHead, beq_iff_eq] at hd
        omega
    · intro i e j c he hj
      have hi := (List.getElem?_eq_some_iff.1 he).1
      rw [hlen] at hi
      rw [List.getElem?_take, if_pos hi, List.getElem?_drop] at he
      have hz : sz' = sz := by
        cases es with
        | nil => simp at he
        | cons e0 r =>
          have h0 := (hok 0 e0 rfl).2
          simp only [okHead, beq_iff_eq] at hd
          omega
      subst hz
      have := hc _ _ _ _ he hj
      rw [show off + l * sz' + i * sz' + j = off + (l + i) * sz' + j by rw [Nat.add_mul]; omega]
      exact this
    · intro i e j c he hj
      have hi := (List.getElem?_eq_some_iff.1 he).1
      rw [hlen] at hi
      rw [List.getElem?_take, if_pos hi, List.getElem?_drop] at he
      exact hr _ _ _ _ he hj

theorem pSlice_sound {t : TypeId} {x v : AV} {lo hi mx : Option AV} {a : Value} {cl ch cm : Option Value} (h : pSlice P t x lo hi mx G.H = some v) (hx : VRel G x a)
    (rl : ORel G lo cl) (rh : ORel G hi ch) (rm : ORel G mx cm) : ∃ c, (Instr.sliceAt t a cl ch cm).run P w = .ok c w ∧ VRel G v c := by
  unfold pSlice at h
  split at h
  · rename_i e hu
    simp only [Option.bind_eq_some_iff] at h
    obtain ⟨size, hsz, h⟩ := h
    split at h
    · cases cm with
      | some _ => exact rm.elim
      | none =>
        split at h
        · rename_i es
          simp only [Option.bind_eq_some_iff] at h
          obtain ⟨k, hk, l, hl, h⟩ := h
          split at h
          · rename_i hd
            cases h
            have hcap : ∃ ad cap, a = .slice ad es.length cap ∧ es.length ≤ cap := by cases hx with | vs _ a cap _ _ _ _ hcap _ _ _ _ => exact ⟨a, cap, rfl, hcap⟩
            obtain ⟨ad, cap, rfl, hcap⟩ := hcap
            obtain ⟨hb, h1, h2⟩ := bounds2_sound (P := P) (w := w) hk hl rl rh hcap
            exact ⟨_, run_sliceAt hu hsz hb, hx.slice_vs hd h1 h2⟩
          · cases h
        · simp only [Option.bind_eq_some_iff] at h
          obtain ⟨k, hk, l, hl, h⟩ := h
          cases h; cases hx
          obtain ⟨hb, h1, h2⟩ := bounds2_sound (P := P) (w := w) hk hl rl rh (Nat.le_refl 0)
          have : k = 0 := by omega
          have : l = 0 := by omega
          subst_vars
          exact ⟨_, run_sliceAt hu hsz hb, .nils⟩
        · simp only [Option.bind_eq_some_iff] at h
          obtain ⟨k, hk, l, hl, h⟩ := h
          cases h; cases hx
          obtain ⟨hb, h1, h2⟩ := bounds2_sound (P := P) (w := w) hk hl rl rh (Nat.le_refl 0)
          have : k = 0 := by omega
          have : l = 0 := by omega
          subst_vars
          exact ⟨_, run_sliceAt hu hsz hb, .es0 _⟩
        · simp only [Option.bind_eq_some_iff] at h
          obtain ⟨k, hk, l, hl, h⟩ := h
          cases h; cases hx
          obtain ⟨hb, h1, h2⟩ := bounds2_sound (P := P) (w := w) hk hl rl rh (Nat.zero_le _)
          have : k = 0 := by omega
          have : l = 0 := by omega
          subst_vars
          refine ⟨_, run_sliceAt hu hsz hb, ?_⟩
          unfold slV
          split
          · exact .en _ _
          · exact .en _ _
        · rename_i b g
          split at h
          · rename_i g' sz' p es hcs
            split at h
            · rename_i hg
              simp only [Bool.and_eq_true, decide_eq_true_eq] at hg
              obtain ⟨rfl, rfl⟩ := hg
              simp only [Option.bind_eq_some_iff] at h
              obtain ⟨k, hk, l, hl, h⟩ := h
              cases h
              cases hx with
              | hs _ _ _ hb h1 hh =>
                obtain ⟨ad, cap, rfl, hcap, hrest⟩ := hh _ _ _ hcs
                obtain ⟨hbd, h1', h2'⟩ := bounds2_sound (P := P) (w := w) hk hl rl rh hcap
                refine ⟨_, run_sliceAt hu hsz hbd, ?_⟩
                split
                · rename_i hc
                  simp only [Bool.and_eq_true, decide_eq_true_eq] at hc
                  obtain ⟨rfl, rfl⟩ := hc
                  have : slV ad 0 es.length cap sz' = .slice ad es.length cap := by
                    simp only [slV, Nat.zero_mul, Nat.sub_zero]
                    split
                    · rfl
                    · cases ad <;> simp [add_zero']
                  rw [this]
                  exact .hs _ _ _ hb rfl hh
                · rename_i hc
                  simp only [Bool.and_eq_true, decide_eq_true_eq, not_and] at hc
                  refine .hq _ _ _ _ _ hb rfl fun sz'' p' es' hcs' hle => ?_
                  rw [hcs] at hcs'; cases hcs'
                  refine ⟨_, _, rfl, by omega, ?_⟩
                  by_cases hcl : cap = l
                  · by_cases h0 : l = 0
                    · have := hc h0; omega
                    · exact .inl ⟨by omega, h0⟩
                  · rw [if_neg hcl]
                    rcases hrest with ⟨_, _, rfl⟩ | ⟨B, hi, rfl, hbs⟩
                    · omega
                    · refine .inr (.inr ⟨B, hi, by simp [add_none], ?_⟩)
                      rw [show l + (cap - l) = cap by omega]; exact hbs
            · cases h
          · cases h
        · rename_i b g o n
          split at h
          · rename_i g' sz' p es hcs
            split at h
            · rename_i hg
              simp only [Bool.and_eq_true, decide_eq_true_eq] at hg
              obtain ⟨⟨rfl, rfl⟩, hle⟩ := hg
              simp only [Option.bind_eq_some_iff] at h
              obtain ⟨k, hk, l, hl, h⟩ := h
              cases h
              cases hx with
              | hq _ _ _ _ _ hb h1 hh =>
                obtain ⟨ad, cap, rfl, hcap, hrest⟩ := hh _ _ _ hcs hle
                obtain ⟨hbd, h1', h2'⟩ := bounds2_sound (P := P) (w := w) hk hl rl rh hcap
                refine ⟨_, run_sliceAt hu hsz hbd, ?_⟩
                refine .hq _ _ _ _ _ hb rfl fun sz'' p' es' hcs' hle' => ?_
                rw [hcs] at hcs'; cases hcs'
                refine ⟨_, _, rfl, by omega, ?_⟩
                rcases hrest with ⟨rfl, ho⟩ | ⟨hi, rfl, rfl, rfl⟩ | ⟨B, hi, rfl, hbs⟩
                · exact .inl ⟨by omega, by omega⟩
                · have : l = 0 := by omega
                  subst this
                  exact .inr (.inl ⟨hi, by simp, by omega, by omega⟩)
                · by_cases h0 : o + l = 0
                  · have : l = 0 := by omega
                    subst this
                    have : o = 0 := by omega
                    subst this
                    refine .inr (.inr ⟨B, hi, ?_, by simpa using hbs⟩)
                    split <;> simp [add_zero']
                  · by_cases hcl : cap = l
                    · exact .inl ⟨by omega, h0⟩
                    · rw [if_neg hcl]
                      refine .inr (.inr ⟨B, hi, by simp [add_none, Nat.add_mul], ?_⟩)
                      rw [show o + l + (cap - l) = o + cap by omega]; exact hbs
            · cases h
          · cases h
        · cases h
    · rename_i m
      cases cm with
      | none => exact rm.elim
      | some cm =>
        split at h
        · rename_i es
          simp only [Option.bind_eq_some_iff] at h
          obtain ⟨k, hk, h', hh, l, hl, h⟩ := h
          split at h
          · rename_i hc
            simp only [Bool.and_eq_true, decide_eq_true_eq] at hc
            obtain ⟨hs, rfl⟩ := hc
            cases h
            have hcap : ∃ ad cap, a = .slice ad es.length cap ∧ es.length ≤ cap := by cases hx with | vs _ a cap _ _ _ _ hcap _ _ _ _ => exact ⟨a, cap, rfl, hcap⟩
            obtain ⟨ad, cap, rfl, hcap⟩ := hcap
            obtain ⟨hb, h1, h2, h3⟩ := bounds3_sound (P := P) (w := w) (len := es.length) hk hh hl hs rm rl rh hcap
            have : h' = l := by omega
            subst this
            exact ⟨_, run_sliceAt hu hsz hb, by simp only [slV, Nat.sub_self]; exact .es0 _⟩
          · cases h
        · simp only [Option.bind_eq_some_iff] at h
          obtain ⟨k, hk, h', hh, l, hl, h⟩ := h
          split at h
          · rename_i hs
            cases h; cases hx
            obtain ⟨hb, h1, h2, h3⟩ := bounds3_sound (P := P) (w := w) (len := 0) (cap := 0) hk hh hl hs rm rl rh (Nat.le_refl 0)
            have : k = 0 := by omega
            have : h' = 0 := by omega
            have : l = 0 := by omega
            subst_vars
            exact ⟨_, run_sliceAt hu hsz hb, .nils⟩
          · cases h
        · cases h
  · cases h

/-! ### built values -/
/-- cells, one by one -/
def CsRel (G : Gh) (cs : List AV) (vs : Array Value) : Prop := cs.length = vs.size ∧ ∀ (i : Nat) c v, cs[i]? = some c → vs[i]? = some v → VRel G c v
theorem VRel.cells' {a : AV} {v : Value} (h : VRel G a v) (ho : ∀ c ∈ a.cells, c.one = true) : CsRel G a.cells v.cells ∧ ∀ u ∈ v.cells, u.oneCell' = true := by
  by_cases hag : ∃ cs, a = .agg cs
  · obtain ⟨cs, rfl⟩ := hag
    obtain ⟨vs, rfl, hl, hr⟩ := h.cellsAgg
    refine ⟨⟨hl, hr⟩, fun u hu => ?_⟩
    obtain ⟨i, hi, rfl⟩ := Array.mem_iff_getElem.1 hu
    have hi' : i < vs.size := hi
    have hc : cs[i]? = some (cs[i]'(by omega)) := List.getElem?_eq_getElem (by omega)
    exact (hr i _ _ hc (get_some_of hi')).one (ho _ (List.getElem_mem _))
  · have hc : a.cells = [a] := by cases a <;> first | rfl | exact absurd ⟨_, rfl⟩ hag
    have h1 := h.one (ho a (by rw [hc]; simp))
    have hv : v.cells = #[v] := by cases v <;> first | rfl | (simp [Value.oneCell'] at h1)
    refine ⟨⟨by rw [hc, hv]; rfl, fun i c u h1 h2 => ?_⟩, fun u hu => ?_⟩
    · rw [hc] at h1; rw [hv] at h2
      cases i with
      | zero => simp at h1 h2; subst h1; subst h2; exact h
      | succ n => simp at h1
    · rw [hv] at hu; simp at hu; subst hu; exact h1
theorem all_one {a : AV} (h : a.cells.all AV.one = true) : ∀ c ∈ a.cells, c.one = true := by simpa using h
theorem ofConst_cells (v : Value) : CsRel G (ofConst v).cells v.cells := by
  by_cases hag : ∃ cs, v = .agg cs
  · obtain ⟨cs, rfl⟩ := hag
    obtain ⟨vs, h, hl, hr⟩ := (ofConst_rel G (.agg cs)).cellsAgg
    cases h
    exact ⟨hl, hr⟩
  · have h0 : ofConst v = ofConst1 v := by cases v <;> first | rfl | exact absurd ⟨_, rfl⟩ hag
    have hv : v.cells = #[v] := by cases v <;> first | rfl | exact absurd ⟨_, rfl⟩ hag
    have hc : (ofConst1 v).cells = [ofConst1 v] := by
      unfold ofConst1
      split <;> try rfl
      split <;> rfl
    rw [h0, hc, hv]
    refine ⟨rfl, fun i c u h1 h2 => ?_⟩
    cases i with
    | zero => simp at h1 h2; subst h1; subst h2; exact ofConst1_rel G v
    | succ n => simp at h1

theorem splice_length {c vs : List AV} {off : Nat} (h : off + vs.length ≤ c.length) : (splice c off vs).length = c.length := by simp [splice]; omega
theorem splice_get {c vs : List AV} {off : Nat} (h : off + vs.length ≤ c.length) (j : Nat) : (splice c off vs)[j]? = if off ≤ j ∧ j < off + vs.length then vs[j - off]? else c[j]? := by
  have ht : (c.take off).length = off := by simp; omega
  simp only [splice, List.append_assoc]
  by_cases h1 : j < off
  · rw [List.getElem?_append_left (by omega), if_neg (by omega), List.getElem?_take, if_pos h1]
  · rw [List.getElem?_append_right (by omega), ht]
    by_cases h2 : j < off + vs.length
    · rw [List.getElem?_append_left (by omega), if_pos (by omega)]
    · rw [List.getElem?_append_right (by omega), if_neg (by omega), List.getElem?_drop]
      congr 1; omega

theorem fillA_sound {place : Nat → Option (Nat × Nat)} {ρ : Operand → AV} {ev : Operand → Value} : ∀ {l : List (Nat × Operand)} {cells out : List AV} {vs : Array Value}, (∀ q ∈ l, VRel G (ρ q.2) (ev q.2)) →
    fillA place cells (l.map fun q => (q.1, ρ q.2)) = some out → CsRel G cells vs → ∃ us, Instr.fill place vs (l.map fun q => (q.1, ev q.2)) = some us ∧ CsRel G out us
  | [], cells, out, vs, _, h, hr => by
    simp only [List.map_nil, fillA, Option.some.injEq] at h; subst h; exact ⟨vs, rfl, hr⟩
  | (i, o) :: l, cells, out, vs, hall, h, hr => by
    have h2 : VRel G (ρ o) (ev o) := hall (i, o) (by simp)
    generalize hx : ρ o = x at h2
    generalize hy : ev o = y at h2
    simp only [List.map_cons, fillA] at h
    split at h
    · cases h
    · rename_i off n hpl
      split at h
      · rename_i hc
        simp only [Bool.and_eq_true, decide_eq_true_eq, hx] at hc h
        obtain ⟨⟨hn, hle⟩, ho⟩ := hc
        obtain ⟨hcs, _⟩ := h2.cells' (all_one ho)
        have hsz : y.cells.size = n := by rw [← hcs.1]; exact hn
        have hset := Great.foldl_set off y.cells.toList 0 vs
        have hfold : (y.cells.zipIdx.foldl (fun cs (x : Value × Nat) => cs.setIfInBounds (off + x.2) x.1) vs) = (y.cells.toList.zipIdx 0).foldl (fun cs (x : Value × Nat) => cs.setIfInBounds (off + x.2) x.1) vs := by
          rw [← Array.foldl_toList, Array.toList_zipIdx]
        obtain ⟨us, hus, hout⟩ := fillA_sound (vs := y.cells.zipIdx.foldl (fun cs (x : Value × Nat) => cs.setIfInBounds (off + x.2) x.1) vs) (fun q hq => hall q (by simp [hq])) h (by
          rw [hfold]
          refine ⟨by rw [hset.1, splice_length (by omega)]; exact hr.1, fun k c u h1 h2 => ?_⟩
          rw [splice_get (by omega)] at h1
          rw [hset.2] at h2
          have hlt := hr.1
          have hl1 := hcs.1
          simp only [Nat.add_zero, Array.length_toList] at h2
          by_cases hk : off ≤ k ∧ k < off + x.cells.length
          · rw [if_pos hk] at h1
            rw [if_pos ⟨hk.1, by omega, by omega⟩] at h2
            exact hcs.2 _ _ _ h1 (by simpa using h2)
          · rw [if_neg hk] at h1
            rw [if_neg (by omega)] at h2
            exact hr.2 _ _ _ h1 h2)
        refine ⟨us, ?_, hout⟩
        simp only [List.map_cons, Instr.fill, hpl, hy]
        have hl := hr.1
        have : (decide (y.cells.size ≠ n) || decide (off + y.cells.size > vs.size)) = false := by
          simp only [Bool.or_eq_false_iff, decide_eq_false_iff_not, ne_eq, Decidable.not_not]
          exact ⟨hsz, by omega⟩
        rw [this]
        exact hus
      · cases h

theorem parts_list (parts : Array (Nat × Operand)) (ev : Operand → Value) : (parts.map fun (i, x) => (i, ev x)).toList = parts.toList.map fun q => (q.1, ev q.2) := by simp
theorem pBuild_sound {t : TypeId} {parts : Array (Nat × Operand)} {ρ : Operand → AV} {ev : Operand → Value} {v : AV} (h : pBuild P t (parts.toList.map fun q => (q.1, ρ q.2)) = some v)
    (hall : ∀ q ∈ parts.toList, VRel G (ρ q.2) (ev q.2)) : ∃ c, (Instr.build t (parts.map fun (i, x) => (i, ev x))).run P w = .ok c w ∧ VRel G v c := by
  simp only [pBuild, Option.bind_eq_some_iff] at h
  obtain ⟨z, hz, h⟩ := h
  obtain ⟨it, zv, hit, hzv, rfl⟩ := zero_some hz
  split at h
  · rename_i fs hu
    simp only [Option.map_eq_some_iff, Option.bind_eq_some_iff] at h
    obtain ⟨pl, hpl, cs, hf, rfl⟩ := h
    obtain ⟨us, hus, hr⟩ := fillA_sound (G := G) hall hf (ofConst_cells zv)
    refine ⟨.agg us, run_build w t _ us ?_, .agg _ _ hr.1 hr.2⟩
    simp only [Program.built, hit, hu, hzv, hpl, parts_list]
    simpa using hus
  · rename_i n e hu
    simp only [Option.map_eq_some_iff, Option.bind_eq_some_iff] at h
    obtain ⟨sz, hsz, cs, hf, rfl⟩ := h
    obtain ⟨us, hus, hr⟩ := fillA_sound (G := G) hall hf (ofConst_cells zv)
    obtain ⟨ie, hie, rfl⟩ := size_some hsz
    refine ⟨.agg us, run_build w t _ us ?_, .agg _ _ hr.1 hr.2⟩
    simp only [Program.built, hit, hu, hzv, hie, parts_list]
    exact hus
  · cases h
end pure
end Go.Am
namespace Go.Am
section mem
variable {P : Program} {G : Gh}

/-- an operation as the machine does it, and as the model does -/
def OpOk (P : Program) (G : Gh) (s : Sem Next) (nid : Nat) (v : AV) (H' : Heap) : Prop :=
  ∃ nx cv G2, s.run P G.w = .ok nx G2.w ∧ (nx = .value cv ∨ (nx = .skip ∧ cv = undef)) ∧ LStep G G2 ∧ G2.H = H' ∧ VRel G2 v cv ∧ ∀ b g, G2.A b g → (∃ g', G.A b g') ∨ (nid ≤ b ∧ b < nid + 8)
def Fresh (G : Gh) (nid : Nat) : Prop := ∀ b g, nid ≤ b → b < nid + 8 → ¬ G.A b g
theorem Fresh.at {nid : Nat} (h : Fresh G nid) (g : Nat) : ¬ G.A nid g := h nid g (Nat.le_refl _) (by omega)

theorem OpOk.same {s : Sem Next} {nid : Nat} {v : AV} {nx : Next} {cv : Value} (hS : StRel G) (hr : s.run P G.w = .ok nx G.w) (hn : nx = .value cv ∨ (nx = .skip ∧ cv = undef)) (hv : VRel G v cv) : OpOk P G s nid v G.H :=
  ⟨nx, cv, G, hr, hn, .refl hS, rfl, hv, fun _ g h => .inl ⟨g, h⟩⟩
/-- the common form of an operation that hands back a value -/
theorem OpOk.val {s : Sem Value} {nid : Nat} {v : AV} {cv : Value} (hS : StRel G) (hr : s.run P G.w = .ok cv G.w) (hv : VRel G v cv) : OpOk P G (do pure (.value (← s))) nid v G.H :=
  .same hS (nx := .value cv) (by simp [hr]) (.inl rfl) hv

/-! ### loads -/
theorem cellsAt_sound {a : AV} {cs : List AV} {off : Nat} {c : Value} (h : cellsAt a G.H = some (cs, off)) (hS : StRel G) (hx : VRel G a c) :
    ∃ B o, ∃ cv : Nat → Value, c = .pointer (some ⟨B, o + off, none⟩) ∧ ∀ (j : Nat) x, cs[j]? = some x → G.w.cell? ⟨B, o + j, none⟩ = some (cv j) ∧ VRel G x (cv j) := by
  unfold cellsAt at h
  split at h
  · cases h
    cases hx with
    | ip _ _ B o cv hM hB hok hc hr => exact ⟨B, o, cv, rfl, fun j x hj => ⟨hc j x hj, hr j x hj⟩⟩
  · rename_i b off'
    split at h
    · rename_i cs' hcs
      cases h
      cases hx with
      | hp _ _ _ hb h1 hh =>
        obtain ⟨B, hi, rfl⟩ := hh _ hcs
        obtain ⟨B', hi', hlt, _, ar, e, hw, hsz, hr⟩ := hS.blk _ _ hcs
        rw [hi] at hi'; cases hi'
        refine ⟨B, 0, fun j => ar[j]?.getD default, by simp, fun j x hj => ?_⟩
        have hjl := (List.getElem?_eq_some_iff.1 hj).1
        have hv := get_some_of (vs := ar) (i := j) (by omega)
        have e1 : ar[j]?.getD default = ar[j] := by rw [hv]; rfl
        exact ⟨by rw [cell_of hw, Nat.zero_add, hv]; exact congrArg some e1.symm, by show VRel G x (ar[j]?.getD default); rw [e1]; exact hr j x _ hj hv⟩
    · cases h
  · rename_i b g i off'
    split at h
    · rename_i g' sz p es hcs
      split at h
      · rename_i hg; subst hg
        simp only [Option.map_eq_some_iff, Prod.mk.injEq] at h
        obtain ⟨e, he, rfl, rfl⟩ := h
        have hil := (List.getElem?_eq_some_iff.1 he).1
        cases hx with
        | he _ _ _ _ _ hb h1 hh =>
          obtain ⟨B, hi, rfl⟩ := hh _ _ _ hcs hil
          obtain ⟨⟨hsz0, hrow⟩, ⟨hn, _⟩ | ⟨B', hi', hlt, _, ar, el, hw, hsz, hr⟩⟩ := hS.blk _ _ hcs
          · rw [hi] at hn; cases hn
          · rw [hi] at hi'; cases hi'
            refine ⟨B, i * sz, fun j => ar[i * sz + j]?.getD default, rfl, fun j x hj => ?_⟩
            have hjl := (List.getElem?_eq_some_iff.1 hj).1
            have hel := (hrow _ _ he).1
            have hmul : (i + 1) * sz ≤ es.length * sz := Nat.mul_le_mul_right sz (by omega)
            rw [Nat.add_mul] at hmul
            have hv := get_some_of (vs := ar) (i := i * sz + j) (by omega)
            have e1 : ar[i * sz + j]?.getD default = ar[i * sz + j] := by rw [hv]; rfl
            exact ⟨by rw [cell_of hw, hv]; exact congrArg some e1.symm, by show VRel G x (ar[i * sz + j]?.getD default); rw [e1]; exact hr i e j x _ he hj hv⟩
      · cases h
    · cases h
  · cases h

theorem pLoad_sound {t : TypeId} {a v : AV} {c : Value} (h : pLoad P t a G.H = some v) (hS : StRel G) (hx : VRel G a c) :
    ∃ u, (Instr.loadAt t c).run P G.w = .ok u G.w ∧ VRel G v u := by
  simp only [pLoad, Option.bind_eq_some_iff] at h
  obtain ⟨⟨cs, off⟩, hc, h⟩ := h
  obtain ⟨B, o, cv, rfl, hcells⟩ := cellsAt_sound hc hS hx
  unfold part at h
  split at h
  · cases h
  · rename_i d hd
    split at h
    · rename_i ha
      simp only [Option.bind_eq_some_iff] at h
      obtain ⟨n, hn, h⟩ := h
      split at h
      · rename_i hle
        cases h
        have hl : ((List.range n).map fun k => cv (off + k)).length = n := by simp
        have hrun := loadCells_run (P := P) (w := G.w) (B := B) (off := o + off) (vs := (List.range n).map fun k => cv (off + k)) (fun j v hj => by
          rw [List.getElem?_map, Option.map_eq_some_iff] at hj
          obtain ⟨k, hk, rfl⟩ := hj
          obtain ⟨hk1, hk2⟩ := List.getElem?_eq_some_iff.1 hk
          simp at hk1 hk2; subst hk2
          have := (hcells (off + j) _ (List.getElem?_eq_getElem (by omega))).1
          rwa [Nat.add_assoc])
        rw [hl] at hrun
        refine ⟨.agg ((List.range n).map fun k => cv (off + k)).toArray, by simp [Instr.loadAt, Instr.sureAddr, loadVar, run_isAgg hd, ha, run_size hn, hrun], .agg _ _ (by simp; omega) fun i x u hi hu => ?_⟩
        have hil := (List.getElem?_eq_some_iff.1 hi).1
        have hil' : i < n := by simp at hil; omega
        rw [List.getElem?_take, if_pos hil', List.getElem?_drop] at hi
        have hu' : u = cv (off + i) := by
          rw [List.getElem?_toArray, List.getElem?_map, Option.map_eq_some_iff] at hu
          obtain ⟨k, hk, rfl⟩ := hu
          obtain ⟨hk1, hk2⟩ := List.getElem?_eq_some_iff.1 hk
          simp at hk2; subst hk2; rfl
        rw [hu']
        exact (hcells _ _ hi).2
      · cases h
    · rename_i ha
      have ha' : aggT P t = false := by simpa using ha
      have := hcells _ _ h
      refine ⟨cv off, ?_, this.2⟩
      simp [Instr.loadAt, Instr.sureAddr, loadVar, run_isAgg hd, ha', this.1]

/-! ### stores -/
theorem reCells_cells {e : AV} {cs : List AV} (hl : cs.length = e.cells.length) (h1 : ∀ c ∈ cs, c.one = true) : (reCells e cs).cells = cs := by
  by_cases hag : ∃ xs, e = .agg xs
  · obtain ⟨xs, rfl⟩ := hag; rfl
  · have he : e.cells = [e] := by cases e <;> first | rfl | exact absurd ⟨_, rfl⟩ hag
    have hr : reCells e cs = cs.headD .undef := by cases e <;> first | rfl | exact absurd ⟨_, rfl⟩ hag
    rw [he] at hl
    match cs, hl with
    | [c], _ =>
      rw [hr]
      have := h1 c (by simp)
      simp only [List.headD_cons]
      cases c <;> first | rfl | (simp [AV.one] at this)
theorem reCells_free {e : AV} {cs : List AV} (he : ∀ c ∈ cs, c.refFree = true) : (reCells e cs).refFree = true := by
  by_cases hag : ∃ xs, e = .agg xs
  · obtain ⟨xs, rfl⟩ := hag; simpa [reCells, AV.refFree, AV.refFreeL_iff] using he
  · have hr : reCells e cs = cs.headD .undef := by cases e <;> first | rfl | exact absurd ⟨_, rfl⟩ hag
    rw [hr]
    cases cs with
    | nil => rfl
    | cons c r => exact he c (by simp)

theorem arr_get {c : Array Value} {vs : Array Value} {off : Nat} (h : off + vs.size ≤ c.size) (j : Nat) :
    (spliceV c.toList off vs.toList).toArray[j]? = if off ≤ j ∧ j < off + vs.size then vs[j - off]? else c[j]? := by
  rw [List.getElem?_toArray, spliceV_get (by simpa using h)]
  simp
theorem arr_size {c : Array Value} {vs : Array Value} {off : Nat} (h : off + vs.size ≤ c.size) : (spliceV c.toList off vs.toList).toArray.size = c.size := by
  rw [List.size_toArray, spliceV_length (by simpa using h)]; simp

theorem run_storeVar {t : TypeId} {n B off : Nat} {v : Value} {c : Array Value} {e : TypeId} {w : World} (hn : size? P t = some n) (hs : v.cells.size = n) (hw : w.heap[B]? = some (.cells c e (0, 0))) (hle : off + n ≤ c.size)
    (h1 : ∀ u ∈ v.cells, u.oneCell' = true) : (Instr.storeAt t (.pointer (some ⟨B, off, none⟩)) v).run P w = .ok () (setObj w B (.cells (spliceV c.toList off v.cells.toList).toArray e (0, 0))) := by
  have := storeCells_run (P := P) (B := B) (e := e) (off := off) v.cells.toList 0 w c hw (by simp; omega) (fun u hu => h1 u (by simpa using hu))
  simp only [Nat.add_zero] at this
  simp [Instr.storeAt, Instr.sureAddr, storeVar, run_size hn, hs, this]

theorem pStore_sound {t : TypeId} {a v : AV} {c u : Value} {H' : Heap} {nid : Nat} (h : pStore P t a v G.H = some H') (hS : StRel G) (hx : VRel G a c) (hv : VRel G v u) :
    OpOk P G (do Instr.storeAt t c u; pure .skip) nid (.tup []) H' := by
  simp only [pStore, Option.bind_eq_some_iff] at h
  obtain ⟨n, hn, h⟩ := h
  split at h
  · rename_i hc
    simp only [Bool.and_eq_true, decide_eq_true_eq] at hc
    obtain ⟨rfl, ho⟩ := hc
    obtain ⟨hcs, h1⟩ := hv.cells' (all_one ho)
    have hus : u.cells.size = v.cells.length := hcs.1.symm
    split at h
    · rename_i b off
      split at h
      · rename_i cs hb
        split at h
        · rename_i hle
          cases h
          cases hx with
          | hp _ _ _ hb' h1' hh =>
            obtain ⟨B, hi, rfl⟩ := hh _ hb
            obtain ⟨B', hi', hlt, hF, ar, e, hw, hsz, hr⟩ := hS.blk _ _ hb
            rw [hi] at hi'; cases hi'
            have hrun := run_storeVar (P := P) hn hus hw (by omega) h1 (off := off)
            refine ⟨.skip, undef, putG G b B (.cells (splice cs off v.cells)) (.cells (spliceV ar.toList off u.cells.toList).toArray e (0, 0)), by simp [hrun]; rfl, .inr ⟨rfl, rfl⟩, ?_, rfl, ?_, fun _ g h => .inl ⟨g, h⟩⟩
            · refine LStep.put hS hb hi trivial (by simp) fun he => ⟨B, hi, by simpa [putG, size_setObj] using hlt, hF, _, e, heap_setObj_self _ hlt, ?_, ?_⟩
              · rw [arr_size (by omega), splice_length (by omega)]; exact hsz
              · intro j x y hj hy
                rw [splice_get (by omega)] at hj
                rw [arr_get (by omega)] at hy
                by_cases hk : off ≤ j ∧ j < off + v.cells.length
                · rw [if_pos hk] at hj
                  rw [if_pos (by omega)] at hy
                  exact (hcs.2 _ _ _ hj hy).ext he
                · rw [if_neg hk] at hj
                  rw [if_neg (by omega)] at hy
                  exact (hr _ _ _ hj hy).ext he
            · exact .tup [] #[] rfl (by simp)
        · cases h
      · cases h
    · rename_i b g i off
      split at h
      · rename_i g' sz p es hb
        split at h
        · rename_i hg; subst hg
          simp only [Option.bind_eq_some_iff] at h
          obtain ⟨x, hxe, h⟩ := h
          split at h
          · rename_i hle
            cases h
            have hil := (List.getElem?_eq_some_iff.1 hxe).1
            cases hx with
            | he _ _ _ _ _ hb' h1' hh =>
              obtain ⟨B, hi, rfl⟩ := hh _ _ _ hb hil
              obtain ⟨⟨hsz0, hrow⟩, ⟨hnn, _⟩ | ⟨B', hi', hlt, hF, ar, e, hw, hsz, hr⟩⟩ := hS.blk _ _ hb
              · rw [hi] at hnn; cases hnn
              · rw [hi] at hi'; cases hi'
                have hel := hrow _ _ hxe
                have hmul : (i + 1) * sz ≤ es.length * sz := Nat.mul_le_mul_right sz (by omega)
                rw [Nat.add_mul] at hmul
                have hrun := run_storeVar (P := P) hn hus hw (by omega) h1 (off := i * sz + off)
                have hcells : ∀ c ∈ splice x.cells off v.cells, c.one = true := by
                  intro c hc
                  simp only [splice, List.mem_append] at hc
                  rcases hc with (hc | hc) | hc
                  · exact hel.2.1 c (List.mem_of_mem_take hc)
                  · exact all_one ho c hc
                  · exact hel.2.1 c (List.mem_of_mem_drop hc)
                have hre : (reCells x (splice x.cells off v.cells)).cells = splice x.cells off v.cells := reCells_cells (splice_length hle) hcells
                refine ⟨.skip, undef, putG G b B (.sl g sz (p && v.refFree) (es.set i (reCells x (splice x.cells off v.cells)))) (.cells (spliceV ar.toList (i * sz + off) u.cells.toList).toArray e (0, 0)), by simp [hrun]; rfl, .inr ⟨rfl, rfl⟩, ?_, rfl, ?_, fun _ g h => .inl ⟨g, h⟩⟩
                · refine LStep.put hS hb hi ⟨rfl, rfl, by simp⟩ (fun _ _ _ _ _ => ?_) fun he => ⟨⟨hsz0, fun k y hk => ?_⟩, .inr ⟨B, hi, by simpa [putG, size_setObj] using hlt, hF, _, e, heap_setObj_self _ hlt, ?_, ?_⟩⟩
                  · simp only [bsz, hw, heap_setObj_self _ hlt]
                    rw [arr_size (by omega)]; exact Nat.le_refl _
                  · rw [List.getElem?_set] at hk
                    split at hk
                    · cases hk
                      rw [hre]
                      refine ⟨(splice_length hle).trans hel.1, hcells, fun hp => ?_⟩
                      simp only [Bool.and_eq_true] at hp
                      refine reCells_free fun c hc => ?_
                      simp only [splice, List.mem_append] at hc
                      have hxf := hel.2.2 hp.1
                      rcases hc with (hc | hc) | hc
                      · exact AV.refFree_cells hxf c (List.mem_of_mem_take hc)
                      · exact AV.refFree_cells hp.2 c hc
                      · exact AV.refFree_cells hxf c (List.mem_of_mem_drop hc)
                    · have := hrow _ _ hk
                      exact ⟨this.1, this.2.1, fun hp => this.2.2 (by simp only [Bool.and_eq_true] at hp; exact hp.1)⟩
                  · rw [arr_size (by omega), List.length_set]; exact hsz
                  · intro k y j z w' hk hj hz
                    have hks := (List.getElem?_eq_some_iff.1 hk).1
                    rw [List.length_set] at hks
                    rw [arr_get (by omega)] at hz
                    rw [List.getElem?_set] at hk
                    by_cases hik : i = k
                    · subst hik
                      rw [if_pos rfl, if_pos hil] at hk
                      cases hk
                      rw [hre, splice_get hle] at hj
                      by_cases hkk : off ≤ j ∧ j < off + v.cells.length
                      · rw [if_pos hkk] at hj
                        rw [if_pos (by omega), show i * sz + j - (i * sz + off) = j - off by omega] at hz
                        exact (hcs.2 _ _ _ hj hz).ext he
                      · rw [if_neg hkk] at hj
                        rw [if_neg (by omega)] at hz
                        exact (hr _ _ _ _ _ hxe hj hz).ext he
                    · rw [if_neg hik] at hk
                      have hjl := (List.getElem?_eq_some_iff.1 hj).1
                      have hyl := (hrow _ _ hk).1
                      rw [if_neg] at hz
                      · exact (hr _ _ _ _ _ hk hj hz).ext he
                      · rintro ⟨q1, q2⟩
                        rcases Nat.lt_or_ge i k with hlt' | hge
                        · have : (i + 1) * sz ≤ k * sz := Nat.mul_le_mul_right sz hlt'
                          rw [Nat.add_mul] at this; omega
                        · have : (k + 1) * sz ≤ i * sz := Nat.mul_le_mul_right sz (by omega)
                          rw [Nat.add_mul] at this; omega
                · exact .tup [] #[] rfl (by simp)
          · cases h
        · cases h
      · cases h
    · cases h
  · cases h
end mem
end Go.Am
namespace Go.Am
section mem
variable {P : Program} {G : Gh}

/-- a block that nothing live owns -/
def allocG (G : Gh) (o : Obj) : Gh := { G with w := newW G.w o }
theorem LStep.alloc (hS : StRel G) (o : Obj) : LStep G (allocG G o) := by
  have hheap : ∀ B, B < G.w.heap.size → (allocG G o).w.heap[B]? = G.w.heap[B]? := by
    intro B hB; simp only [allocG, heap_new]; rw [if_neg (by omega)]
  have hbsz : ∀ B, B < G.w.heap.size → bsz G.w B ≤ bsz (allocG G o).w B := by
    intro B hB; simp only [bsz, hheap B hB]; exact Nat.le_refl _
  have size : G.w.heap.size ≤ (allocG G o).w.heap.size := by simp [allocG, size_new]
  have hrow : ∀ b g sz p es, G.A b g → G.H.get b = some (.sl g sz p es) → ∃ p0 es0, G.H.get b = some (.sl g sz p0 es0) ∧ es0.length = es.length ∧ (allocG G o).ι b = G.ι b ∧ ∀ B, G.ι b = some B → bsz G.w B ≤ bsz (allocG G o).w B :=
    fun b g sz p es _ h => ⟨p, es, h, rfl, rfl, fun B hB => hbsz B (hS.live h hB).1⟩
  have he : Ext G (allocG G o) := {
    size := size
    still := fun B hB hM => ⟨hM, hheap B hB⟩
    next := by rintro b g b' g' ha he; cases he; exact ha
    cells := by rintro b b' g' cs' ha he h; cases he; exact ⟨cs', h, rfl⟩
    rows := by rintro b g b' g' sz p es' ha he h; cases he; exact hrow _ _ _ _ _ ha h
    maps := by rintro b b' g' ks vs ha he h; cases he; exact ⟨ks, vs, h, rfl⟩
    yl := .inr rfl
    zero := by rintro b b' g' ha he; cases he; exact fun h => h }
  have hst : StRel (allocG G o) := {
    next := hS.next, here := hS.here, gen := hS.gen, inj := hS.inj
    low := fun B h => Nat.lt_of_lt_of_le (hS.low B h) size
    blk := fun b x hb => (hS.blk b x hb).mv he rfl (fun _ _ _ h => h) (fun B _ hB => hheap B hB) }
  exact {
    st := hst, size := size, F := rfl, yl := rfl, outer := rfl, os := rfl, tape := rfl, output := rfl, far := fun B hB _ => hheap B hB
    rng := fun b x B h h' => .inl ⟨b, x, h, h'⟩
    A := fun _ _ h => h
    cells := fun b cs' _ h => ⟨cs', h, rfl⟩
    rows := hrow
    maps := fun b ks vs _ h => ⟨ks, vs, h, rfl⟩
    kind := fun b g sz p es' g1 _ h => ⟨g, sz, p, es', h, Nat.le_refl _⟩ }
theorem not_M_new (hS : StRel G) (o : Obj) : ¬ (allocG G o).M G.w.heap.size := by
  rintro (h | ⟨b, x, h, hi⟩)
  · exact absurd (hS.low _ h) (by omega)
  · exact absurd (hS.live h hi).1 (by omega)
theorem run_newRow' (w : World) (e : TypeId) (c : Array Value) : (newRow e c).run P w = .ok ⟨w.heap.size, 0, none⟩ (newW w (.cells c e (0, 0))) := rfl
theorem new_get (w : World) (o : Obj) : (newW w o).heap[w.heap.size]? = some o := by simp [heap_new]

/-- a new variable, never written again -/
theorem newVar_ip {e : TypeId} {cs : List AV} {u : Array Value} (hS : StRel G) (hcs : CsRel G cs u) (hf : AV.refFreeL cs = true) :
    LStep G (allocG G (.cells u e (0, 0))) ∧ VRel (allocG G (.cells u e (0, 0))) (.ip cs 0) (.pointer (some ⟨G.w.heap.size, 0, none⟩)) := by
  have hL := LStep.alloc hS (.cells u e (0, 0))
  refine ⟨hL, ?_⟩
  have := VRel.ip (G := allocG G (.cells u e (0, 0))) cs 0 G.w.heap.size 0 (fun j => u[j]?.getD default) (not_M_new hS _) (by simp [allocG, size_new]) hf
    (fun j c hj => by
      have hl := (List.getElem?_eq_some_iff.1 hj).1
      have hv := get_some_of (vs := u) (i := j) (by have := hcs.1; omega)
      show (newW G.w _).cell? _ = _
      rw [cell_of (new_get G.w _), Nat.zero_add, hv]; rfl)
    (fun j c hj => by
      have hl := (List.getElem?_eq_some_iff.1 hj).1
      have hv := get_some_of (vs := u) (i := j) (by have := hcs.1; omega)
      rw [hv]
      exact (hcs.2 j c _ hj hv).ext hL.ext)
  exact this
/-- a new variable of the call's own -/
theorem newVar_hp {e : TypeId} {cs : List AV} {u : Array Value} {nid : Nat} (hS : StRel G) (hcs : CsRel G cs u) (hA : Fresh G nid) :
    LStep G (newG G nid (.cells cs) (.cells u e (0, 0))) ∧ VRel (newG G nid (.cells cs) (.cells u e (0, 0))) (.hp nid 0) (.pointer (some ⟨G.w.heap.size, 0, none⟩)) := by
  refine ⟨LStep.new hS hA.at fun he => ⟨G.w.heap.size, by simp [newG], by simp [newG, size_new], fun h => absurd (hS.low _ h) (by omega), u, e, new_get G.w _, hcs.1.symm, fun j x v hj hv => (hcs.2 j x v hj hv).ext he⟩, ?_⟩
  exact .hp nid 0 _ (.inr ⟨rfl, rfl⟩) rfl fun cs' hcs' => ⟨G.w.heap.size, by simp [newG], rfl⟩
theorem newG_A {x : ABlk} {o : Obj} {nid : Nat} : ∀ b g, (newG G nid x o).A b g → (∃ g', G.A b g') ∨ (nid ≤ b ∧ b < nid + 8) := by
  rintro b g (h | ⟨rfl, _⟩)
  · exact .inl ⟨g, h⟩
  · exact .inr ⟨Nat.le_refl _, by omega⟩

theorem box_sound {e : TypeId} {v : AV} {c : Value} {fl nid : Nat} (hS : StRel G) (hx : VRel G v c) (ho : v.cells.all AV.one = true) (hA : Fresh G nid) :
    OpOk P G (do pure (.value (← Instr.box e c))) nid (pBox fl v nid G.H).1 (pBox fl v nid G.H).2 := by
  obtain ⟨hcs, _⟩ := hx.cells' (all_one ho)
  unfold pBox
  split
  · rename_i hc
    simp only [Bool.and_eq_true] at hc
    obtain ⟨hL, hv⟩ := newVar_ip (e := e) hS hcs (by rw [AV.refFreeL_iff]; exact AV.refFree_cells (AV.okElem_free hc.2))
    exact ⟨_, _, _, by simp only [Instr.box, newVar, Sem.run_bind, run_newRow', Result.andThen_ok, Sem.run_pure]; rfl, .inl rfl, hL, rfl, hv, fun _ g h => .inl ⟨g, h⟩⟩
  · obtain ⟨hL, hv⟩ := newVar_hp (e := e) hS hcs hA
    exact ⟨_, _, _, by simp only [Instr.box, newVar, Sem.run_bind, run_newRow', Result.andThen_ok, Sem.run_pure]; rfl, .inl rfl, hL, rfl, hv, newG_A⟩

theorem run_alloc {e : TypeId} {z : Value} {w : World} (hz : (zeroValue e).run P w = .ok z w) :
    (Instr.alloc e true (.tuple #[])).run P w = .ok (.pointer (some ⟨w.heap.size, 0, none⟩)) (newW w (.cells z.cells e (0, 0))) := by
  simp only [Instr.alloc, Sem.run_bind, hz, Result.andThen_ok, newVar, run_newRow']
  rfl
theorem alloc_sound {e : TypeId} {z : AV} {nid : Nat} (hS : StRel G) (hz : zero? P e = some z) (hA : Fresh G nid) :
    OpOk P G (do pure (.value (← Instr.alloc e true (.tuple #[])))) nid (.hp nid 0) (G.H.put nid (.cells z.cells)) ∧
    ∀ cs, frozen1 z = some cs → OpOk P G (do pure (.value (← Instr.alloc e true (.tuple #[])))) nid (.ip cs 0) G.H := by
  obtain ⟨zv, hzv, _, rfl⟩ := run_zero (w := G.w) G hz
  constructor
  · obtain ⟨hL, hv⟩ := newVar_hp (e := e) hS (ofConst_cells zv) hA
    exact ⟨_, _, _, by simp only [Sem.run_bind, run_alloc hzv, Result.andThen_ok, Sem.run_pure]; rfl, .inl rfl, hL, rfl, hv, newG_A⟩
  · intro cs h
    simp only [frozen1] at h
    split at h
    · rename_i hc
      cases h
      obtain ⟨hL, hv⟩ := newVar_ip (e := e) hS (ofConst_cells zv) (by rw [AV.refFreeL_iff]; exact AV.refFree_cells (AV.okElem_free hc))
      exact ⟨_, _, _, by simp only [Sem.run_bind, run_alloc hzv, Result.andThen_ok, Sem.run_pure]; rfl, .inl rfl, hL, rfl, hv, fun _ g h => .inl ⟨g, h⟩⟩
    · cases h

/-! ### rows -/
/-- a row's elements and its cells -/
def FlatRel (G : Gh) (sz : Nat) (es : List AV) (u : Array Value) : Prop :=
  es.length * sz ≤ u.size ∧ (∀ (i : Nat) e, es[i]? = some e → e.cells.length = sz ∧ ∀ c ∈ e.cells, c.one = true) ∧
    ∀ (i : Nat) e (j : Nat) c v, es[i]? = some e → e.cells[j]? = some c → u[i * sz + j]? = some v → VRel G c v
theorem FlatRel.lt {sz : Nat} {es : List AV} {u : Array Value} (h : FlatRel G sz es u) {i j : Nat} {e c : AV} (he : es[i]? = some e) (hj : e.cells[j]? = some c) : i * sz + j < u.size := by
  have h1 := (List.getElem?_eq_some_iff.1 he).1
  have h2 := (List.getElem?_eq_some_iff.1 hj).1
  have h3 := (h.2.1 i e he).1
  have h4 : (i + 1) * sz ≤ es.length * sz := Nat.mul_le_mul_right sz h1
  rw [Nat.add_mul] at h4
  have := h.1
  omega
theorem newRow_vs {t : TypeId} {sz cap : Nat} {es : List AV} {u : Array Value} (hS : StRel G) (hf : FlatRel G sz es u) (hok : es.all AV.okElem = true) (hcap : es.length ≤ cap) :
    LStep G (allocG G (.cells u t (0, 0))) ∧ VRel (allocG G (.cells u t (0, 0))) (.vs es) (.slice (some ⟨G.w.heap.size, 0, none⟩) es.length cap) := by
  have hL := LStep.alloc hS (.cells u t (0, 0))
  refine ⟨hL, ?_⟩
  refine .vs es _ cap G.w.heap.size 0 sz (fun i j => u[i * sz + j]?.getD default) hcap (.inr ⟨rfl, not_M_new hS _, by simp [allocG, size_new]⟩) (fun i e he => ⟨?_, (hf.2.1 i e he).1⟩) (fun i e j c he hj => ?_) (fun i e j c he hj => ?_)
  · simp only [List.all_eq_true] at hok
    exact hok e (List.mem_of_getElem? he)
  · have hv := get_some_of (hf.lt he hj)
    show (newW G.w _).cell? _ = _
    rw [cell_of (new_get G.w _), Nat.zero_add, hv]; rfl
  · have hv := get_some_of (hf.lt he hj)
    rw [hv]
    exact (hf.2.2 i e j c _ he hj hv).ext hL.ext
theorem newRow_hs {t : TypeId} {sz cap : Nat} {es : List AV} {u : Array Value} {nid : Nat} (hS : StRel G) (hf : FlatRel G sz es u) (hcap : es.length ≤ cap) (hsz : 0 < sz) (hcu : cap * sz ≤ u.size) (hA : Fresh G nid) (p : Bool)
    (hp : p = true → AV.refFreeL es = true) :
    LStep G (newG G nid (.sl 0 sz p es) (.cells u t (0, 0))) ∧ VRel (newG G nid (.sl 0 sz p es) (.cells u t (0, 0))) (.hs nid 0) (.slice (some ⟨G.w.heap.size, 0, none⟩) es.length cap) := by
  refine ⟨LStep.new hS hA.at fun he => ⟨⟨hsz, fun i e h => ⟨(hf.2.1 i e h).1, (hf.2.1 i e h).2, fun q => AV.refFreeL_iff.1 (hp q) e (List.mem_of_getElem? h)⟩⟩,
    .inr ⟨G.w.heap.size, by simp [newG], by simp [newG, size_new], fun h => absurd (hS.low _ h) (by omega), u, t, new_get G.w _, hf.1, fun i e j c v h1 h2 h3 => (hf.2.2 i e j c v h1 h2 h3).ext he⟩⟩, ?_⟩
  refine .hs nid 0 _ (.inr ⟨rfl, rfl⟩) rfl fun sz' p' es' h => ?_
  simp only [newG, get_put, if_true, Option.some.injEq, ABlk.sl.injEq] at h
  obtain ⟨_, rfl, rfl, rfl⟩ := h
  refine ⟨_, cap, rfl, hcap, .inr ⟨G.w.heap.size, by simp [newG], rfl, ?_⟩⟩
  simp only [bsz, newG, new_get]; exact hcu

theorem litElems_sound {sz : Nat} {agg : Bool} {ρ : Operand → AV} {ev : Operand → Value} : ∀ {l : List (Nat × Operand)} {k : Nat} {es : List AV}, (∀ q ∈ l, VRel G (ρ q.2) (ev q.2)) →
    litElems sz agg k (l.map fun q => (q.1, ρ q.2)) = some es →
    ∃ xs : List Value, (l.map fun q => (q.1, ev q.2)) = (xs.zipIdx k).map (fun x => (x.2, x.1)) ∧ es.length = xs.length ∧ (∀ x ∈ xs, x.cells.size = sz) ∧
      (∀ (i : Nat) e, es[i]? = some e → e.cells.length = sz ∧ ∀ c ∈ e.cells, c.one = true) ∧ ∀ (i : Nat) e x, es[i]? = some e → xs[i]? = some x → CsRel G e.cells x.cells
  | [], k, es, _, h => by
    simp only [List.map_nil, litElems, Option.some.injEq] at h; subst h
    exact ⟨[], rfl, rfl, by simp, by simp, by simp⟩
  | (i, o) :: l, k, es, hall, h => by
    simp only [List.map_cons, litElems] at h
    split at h
    · rename_i hc
      simp only [Bool.and_eq_true, decide_eq_true_eq] at hc
      obtain ⟨⟨⟨rfl, hl⟩, ho⟩, _⟩ := hc
      simp only [Option.map_eq_some_iff] at h
      obtain ⟨es', hes, rfl⟩ := h
      obtain ⟨hcs, _⟩ := (hall (i, o) (by simp)).cells' (all_one ho)
      obtain ⟨xs, h1, h2, h3, h4, h5⟩ := litElems_sound (fun q hq => hall q (by simp [hq])) hes
      refine ⟨ev o :: xs, by simp [h1], by simp [h2], ?_, ?_, ?_⟩
      · intro x hx
        rcases List.mem_cons.1 hx with rfl | hx
        · rw [← hcs.1]; exact hl
        · exact h3 x hx
      · intro n e he
        cases n with
        | zero => simp at he; subst he; exact ⟨hl, all_one ho⟩
        | succ n => exact h4 n e (by simpa using he)
      · intro n e x he hx
        cases n with
        | zero => simp at he hx; subst he; subst hx; exact hcs
        | succ n => exact h5 n e x (by simpa using he) (by simpa using hx)
    · cases h

theorem flat_of {sz : Nat} {es : List AV} {xs : List Value} (hsz : 0 < sz) (hl : es.length = xs.length) (hx : ∀ x ∈ xs, x.cells.size = sz)
    (he : ∀ (i : Nat) e, es[i]? = some e → e.cells.length = sz ∧ ∀ c ∈ e.cells, c.one = true) (hr : ∀ (i : Nat) e x, es[i]? = some e → xs[i]? = some x → CsRel G e.cells x.cells) :
    FlatRel G sz es (xs.flatMap fun v => v.cells.toList).toArray ∧ (xs.flatMap fun v => v.cells.toList).length = xs.length * sz := by
  have hlen : ∀ l : List Value, (∀ x ∈ l, x.cells.size = sz) → (l.flatMap fun v => v.cells.toList).length = l.length * sz := by
    intro l
    induction l with
    | nil => simp
    | cons a r ih => intro h; simp only [List.flatMap_cons, List.length_append, List.length_cons, Array.length_toList]; rw [ih fun x hx => h x (by simp [hx]), h a (by simp), Nat.add_mul]; omega
  refine ⟨⟨?_, he, fun i e j c v h1 h2 h3 => ?_⟩, hlen xs hx⟩
  · rw [List.size_toArray, hlen xs hx, hl]; exact Nat.le_refl _
  · have hj := (List.getElem?_eq_some_iff.1 h2).1
    rw [(he i e h1).1] at hj
    rw [List.getElem?_toArray, Great.flat_get hsz xs hx] at h3
    have hd : (i * sz + j) / sz = i := by
      rw [Nat.mul_comm, Nat.mul_add_div hsz, Nat.div_eq_of_lt hj]; rfl
    have hm : (i * sz + j) % sz = j := by rw [Nat.mul_comm, Nat.mul_add_mod, Nat.mod_eq_of_lt hj]
    rw [hd, hm, Option.bind_eq_some_iff] at h3
    obtain ⟨x, hx', h3⟩ := h3
    exact (hr i e x h1 hx').2 j c v h2 h3

theorem lit_sound {t : TypeId} {len sz fl nid : Nat} {parts : Array (Nat × Operand)} {ρ : Operand → AV} {ev : Operand → Value} {es : List AV} (h : pLit P t len (parts.toList.map fun q => (q.1, ρ q.2)) = some (sz, es)) (hS : StRel G)
    (hall : ∀ q ∈ parts.toList, VRel G (ρ q.2) (ev q.2)) (hA : Fresh G nid) :
    OpOk P G (do pure (.value (← Instr.buildSlice t len (parts.map fun (i, x) => (i, ev x))))) nid (pRow fl sz es nid G.H).1 (pRow fl sz es nid G.H).2 := by
  unfold pLit at h
  split at h
  · rename_i e hu
    simp only [Option.bind_eq_some_iff] at h
    obtain ⟨sz', hsz, h⟩ := h
    split at h
    · cases h
    · rename_i hc
      simp only [Bool.or_eq_true, decide_eq_true_eq, not_or, Nat.not_lt] at hc
      obtain ⟨⟨h0, hbig⟩, hz⟩ := hc
      obtain ⟨es', hlit, h⟩ := Option.bind_eq_some_iff.1 h
      split at h
      · rename_i hlen
        cases h
        obtain ⟨ie, hie, rfl⟩ := size_some hsz
        obtain ⟨xs, h1, h2, h3, h4, h5⟩ := litElems_sound hall hlit
        obtain ⟨z, hz⟩ := Option.ne_none_iff_exists'.1 (by simpa using hz)
        obtain ⟨ie', zv, hie', hzv, _⟩ := zero_some hz
        rw [hie] at hie'; cases hie'
        have hszp : 0 < ie.size := by omega
        obtain ⟨hflat, hfl⟩ := flat_of hszp h2 h3 h4 h5
        have hrun : (Instr.buildSlice t len (parts.map fun (i, x) => (i, ev x))).run P G.w = .ok (.slice (some ⟨G.w.heap.size, 0, none⟩) len len) (newW G.w (.cells (xs.flatMap fun v => v.cells.toList).toArray e (0, 0))) := by
          have hfill := Great.fill_whole hszp xs
          by_cases hl0 : len = 0
          · have : xs = [] := by apply List.eq_nil_of_length_eq_zero; omega
            subst this
            have hp : (parts.map fun (i, x) => (i, ev x)).toList = [] := by rw [parts_list, h1]; rfl
            subst hl0
            simp only [Instr.buildSlice, Sem.run_bind, run_und hu, Result.andThen_ok, run_size hsz, hp, Instr.fill]
            simp [run_newRow', Array.range_zero']
          · refine (run_buildSlice G.w t e len _ _ ie zv hu hie hzv (by omega) (fun q => ?_) ?_).trans rfl
            · rcases Nat.mul_eq_zero.1 q with q | q <;> omega
            · rw [parts_list, h1]
              exact hfill _ h3 (by simp; rw [← hlen, h2])
        subst hlen
        unfold pRow
        split
        · rename_i hc
          simp only [Bool.and_eq_true] at hc
          obtain ⟨hL, hv⟩ := newRow_vs (t := e) hS hflat hc.2 (Nat.le_refl _)
          exact ⟨_, _, _, by simp only [Sem.run_bind, hrun, Result.andThen_ok, Sem.run_pure]; rfl, .inl rfl, hL, rfl, hv, fun _ g h => .inl ⟨g, h⟩⟩
        · obtain ⟨hL, hv⟩ := newRow_hs (t := e) hS hflat (Nat.le_refl _) hszp hflat.1 hA (AV.refFreeL es) (fun h => h)
          exact ⟨_, _, _, by simp only [Sem.run_bind, hrun, Result.andThen_ok, Sem.run_pure]; rfl, .inl rfl, hL, rfl, hv, newG_A⟩
      · cases h
  · cases h

theorem makeMap_sound {t : TypeId} {nid : Nat} (hS : StRel G) (hA : Fresh G nid) : OpOk P G (do pure (.value (← Instr.makeMap t none))) nid (.hm nid) (G.H.put nid (.map [] [])) := by
  refine ⟨.value (.map (some G.w.heap.size)), _, newG G nid (.map [] []) (.map #[] 0), rfl, .inl rfl, LStep.new hS hA.at fun he => ⟨G.w.heap.size, by simp [newG], by simp [newG, size_new], fun h => absurd (hS.low _ h) (by omega), #[], 0, new_get G.w _, rfl, rfl, by simp, by simp⟩, rfl, ?_, newG_A⟩
  exact .hm nid _ (.inr ⟨rfl, rfl⟩) rfl fun ks vs h => ⟨G.w.heap.size, by simp [newG], rfl⟩

theorem acc_sound {t : TypeId} {x v : AV} {c : Value} {H' : Heap} {nid : Nat} (h : accOf P t x nid G.H = some (v, H')) (hS : StRel G) (hx : VRel G x c) (hA : Fresh G nid) : OpOk P G (pure (.value c)) nid v H' := by
  unfold accOf at h
  split at h
  · split at h
    · simp only [Option.bind_eq_some_iff] at h
      obtain ⟨sz, hsz, h⟩ := h
      split at h
      · cases h
      · rename_i h0
        cases h; cases hx
        refine ⟨.value (.slice none 0 0), _, virtG G nid sz, rfl, .inl rfl, LStep.virt hS (by omega) hA.at, rfl, ?_, ?_⟩
        · refine .hs nid 0 _ (.inr ⟨rfl, rfl⟩) rfl fun sz' p' es' h => ?_
          simp only [virtG, get_put, if_true, Option.some.injEq, ABlk.sl.injEq] at h
          obtain ⟨_, rfl, rfl, rfl⟩ := h
          exact ⟨none, 0, rfl, Nat.le_refl _, .inl ⟨by simp [virtG], rfl, rfl⟩⟩
        · rintro b g (h | ⟨rfl, _⟩)
          · exact .inl ⟨g, h⟩
          · exact .inr ⟨Nat.le_refl _, by omega⟩
    · cases h
  · cases h

theorem make_sound {t : TypeId} {l c : AV} {cl cc : Value} {sz nid : Nat} {es : List AV} (h : pMake P t l c = some (sz, es)) (hS : StRel G) (hl : VRel G l cl) (hc : VRel G c cc) (hA : Fresh G nid) :
    OpOk P G (do pure (.value (← Instr.makeSlice t cl cc))) nid (.hs nid 0) (G.H.put nid (.sl 0 sz true es)) ∧ OpOk P G (do pure (.value (← Instr.makeSlice t cl cc))) nid (.vs es) G.H := by
  unfold pMake at h
  split at h
  · rename_i e hu
    simp only [Option.bind_eq_some_iff] at h
    obtain ⟨sz', hsz, z, hz, inf, hinf, n, hn, m, hm, h⟩ := h
    split at h
    · rename_i hcond
      cases h
      simp only [Bool.and_eq_true, decide_eq_true_eq] at hcond
      obtain ⟨⟨⟨⟨⟨⟨⟨⟨h0, h1⟩, h2⟩, h3⟩, h4⟩, h5⟩, h6⟩, h7⟩, _⟩ := hcond
      obtain ⟨k1, rfl⟩ := asN_sound hn hl
      obtain ⟨k2, rfl⟩ := asN_sound hm hc
      obtain ⟨i, zv, hi, hzv, rfl⟩ := zero_some hz
      obtain ⟨i', hi', rfl⟩ := size_some hsz
      rw [hi] at hi'; cases hi'
      rw [hi] at hinf; cases hinf
      have e45 : (maxBytes : Int) = 35184372088832 := by decide
      rw [e45] at h2 h3
      have hb : (inf.bytes : Int) * m ≤ 281474976710656 := by rw [Int.mul_comm]; omega
      have hrun := run_make (P := P) G.w t e inf zv hu hi hzv k1 k2 n m h0 h1 hb (by omega)
      obtain ⟨hcs, hcr⟩ := ofConst_cells (G := G) zv
      have hzs : zv.cells.size = inf.size := by omega
      have hnm : n.toNat ≤ m.toNat := by omega
      have hle : n.toNat * inf.size ≤ m.toNat * inf.size := Nat.mul_le_mul_right _ hnm
      have hpos : 0 < inf.size := by omega
      have hflat : FlatRel G inf.size (List.replicate n.toNat (ofConst zv)) (madeCells zv.cells (m.toNat * inf.size)) := by
        refine ⟨by rw [size_madeCells, List.length_replicate]; exact hle, fun k e' he => ?_, fun k e' j c v he hj hv => ?_⟩
        · rw [List.getElem?_replicate] at he
          split at he
          · cases he; exact ⟨h5, all_one h6⟩
          · cases he
        · rw [List.getElem?_replicate] at he
          split at he
          · cases he
            have hjl := (List.getElem?_eq_some_iff.1 hj).1
            simp only [madeCells, Array.getElem?_map, Option.map_eq_some_iff] at hv
            obtain ⟨q, hq, rfl⟩ := hv
            obtain ⟨hq1, hq2⟩ := Array.getElem?_eq_some_iff.1 hq
            simp at hq2; subst hq2
            have hmod : (k * inf.size + j) % zv.cells.size = j := by rw [hzs, Nat.mul_comm, Nat.mul_add_mod, Nat.mod_eq_of_lt (by omega)]
            have hv' := get_some_of (vs := zv.cells) (i := j) (by omega)
            have : zv.cells[(k * inf.size + j) % zv.cells.size]! = zv.cells[j]'(by omega) := by
              rw [getElem!_def, hmod, hv']
            rw [this]
            exact hcr j c _ hj hv'
          · cases he
      have hlen : (List.replicate n.toNat (ofConst zv)).length = n.toNat := List.length_replicate
      constructor
      · obtain ⟨hL, hv⟩ := newRow_hs (t := e) (cap := m.toNat) hS hflat (by rw [hlen]; exact hnm) hpos (by rw [size_madeCells]; exact Nat.le_refl _) hA true (fun _ => by
          rw [AV.refFreeL_iff]; intro x hx; rw [List.eq_of_mem_replicate hx]; exact h7)
        rw [hlen] at hv
        exact ⟨_, _, _, by simp only [Sem.run_bind, hrun, Result.andThen_ok, Sem.run_pure]; rfl, .inl rfl, hL, rfl, hv, newG_A⟩
      · obtain ⟨hL, hv⟩ := newRow_vs (t := e) (cap := m.toNat) hS hflat (by
          simp only [List.all_eq_true]; intro x hx; rw [List.eq_of_mem_replicate hx]; simp only [AV.okElem, Bool.and_eq_true]; exact ⟨h7, h6⟩) (by rw [hlen]; exact hnm)
        rw [hlen] at hv
        exact ⟨_, _, _, by simp only [Sem.run_bind, hrun, Result.andThen_ok, Sem.run_pure]; rfl, .inl rfl, hL, rfl, hv, fun _ g h => .inl ⟨g, h⟩⟩
    · cases h
  · cases h
end mem
end Go.Am
namespace Go.Am
section mem
variable {P : Program} {G : Gh}

/-- elements and their cells, no more -/
def RowVals (G : Gh) (sz : Nat) (es : List AV) (F : List Value) : Prop :=
  F.length = es.length * sz ∧ (∀ u ∈ F, u.oneCell' = true) ∧ (∀ (i : Nat) e, es[i]? = some e → e.cells.length = sz ∧ ∀ c ∈ e.cells, c.one = true) ∧
    ∀ (i : Nat) e (j : Nat) c v, es[i]? = some e → e.cells[j]? = some c → F[i * sz + j]? = some v → VRel G c v
theorem RowVals.ext {G2 : Gh} {sz : Nat} {es : List AV} {F : List Value} (h : RowVals G sz es F) (he : Ext G G2) : RowVals G2 sz es F :=
  ⟨h.1, h.2.1, h.2.2.1, fun i e j c v a b d => (h.2.2.2 i e j c v a b d).ext he⟩
theorem idx_lt {i j sz n : Nat} (hi : i < n) (hj : j < sz) : i * sz + j < n * sz := by
  have : (i + 1) * sz ≤ n * sz := Nat.mul_le_mul_right sz hi
  rw [Nat.add_mul] at this; omega
theorem RowVals.append {sz : Nat} {es es' : List AV} {F F' : List Value} (h : RowVals G sz es F) (h' : RowVals G sz es' F') : RowVals G sz (es ++ es') (F ++ F') := by
  refine ⟨?_, ?_, ?_, ?_⟩
  · simp [h.1, h'.1, Nat.add_mul]
  · intro u hu
    rcases List.mem_append.1 hu with hu | hu
    · exact h.2.1 u hu
    · exact h'.2.1 u hu
  · intro i e he
    rw [List.getElem?_append] at he
    split at he
    · exact h.2.2.1 i e he
    · exact h'.2.2.1 _ e he
  · intro i e j c v he hj hv
    rw [List.getElem?_append] at he
    split at he
    · rename_i hi
      have hjl := (List.getElem?_eq_some_iff.1 hj).1
      rw [(h.2.2.1 i e he).1] at hjl
      have := idx_lt hi hjl
      rw [List.getElem?_append_left (by rw [h.1]; exact this)] at hv
      exact h.2.2.2 i e j c v he hj hv
    · rename_i hi
      have e1 : i * sz + j = F.length + ((i - es.length) * sz + j) := by
        rw [h.1, Nat.sub_mul]
        have : es.length * sz ≤ i * sz := Nat.mul_le_mul_right sz (by omega)
        omega
      rw [e1, List.getElem?_append_right (by omega), Nat.add_sub_cancel_left] at hv
      exact h'.2.2.2 _ e j c v he hj hv
theorem RowVals.flat {sz : Nat} {es : List AV} {F rest : List Value} (h : RowVals G sz es F) : FlatRel G sz es (F ++ rest).toArray := by
  refine ⟨by simp [h.1], h.2.2.1, fun i e j c v he hj hv => ?_⟩
  have hjl := (List.getElem?_eq_some_iff.1 hj).1
  rw [(h.2.2.1 i e he).1] at hjl
  have := idx_lt (List.getElem?_eq_some_iff.1 he).1 hjl
  rw [List.getElem?_toArray, List.getElem?_append_left (by rw [h.1]; exact this)] at hv
  exact h.2.2.2 i e j c v he hj hv

theorem row_at {x : AV} {src : List AV} {a : Value} {sz : Nat} (h : rowOf x G.H = some src) (hok : okSrc sz src = true) (hS : StRel G) (hx : VRel G x a) :
    ∃ ad cap, a = .slice ad src.length cap ∧ (∀ (i : Nat) e, src[i]? = some e → e.cells.length = sz ∧ ∀ c ∈ e.cells, c.one = true) ∧
      (src = [] ∨ ∃ B off, ∃ cv : Nat → Nat → Value, ad = some ⟨B, off, none⟩ ∧
        ∀ (i : Nat) e (j : Nat) c, src[i]? = some e → e.cells[j]? = some c → G.w.cell? ⟨B, off + i * sz + j, none⟩ = some (cv i j) ∧ VRel G c (cv i j) ∧ (cv i j).oneCell' = true) := by
  have hlen : ∀ (i : Nat) e, src[i]? = some e → e.cells.length = sz := by
    intro i e he
    simp only [okSrc, List.all_eq_true, decide_eq_true_eq] at hok
    exact hok e (List.mem_of_getElem? he)
  unfold rowOf at h
  split at h
  · cases h
    cases hx with
    | vs _ a cap B off sz' cv hcap ha hok' hc hr =>
      refine ⟨a, cap, rfl, fun i e he => ⟨hlen i e he, AV.okElem_one (hok' i e he).1⟩, ?_⟩
      rcases ha with ha | ⟨rfl, _, _⟩
      · exact .inl (List.eq_nil_of_length_eq_zero ha)
      · refine .inr ⟨B, off, cv, rfl, fun i e j c he hj => ?_⟩
        have h1 := hc i e j c he hj
        have e1 : sz' = sz := by rw [← hlen i e he, (hok' i e he).2]
        rw [e1] at h1
        exact ⟨h1, hr i e j c he hj, (hr i e j c he hj).one (AV.okElem_one (hok' i e he).1 c (List.mem_of_getElem? hj))⟩
  · cases h; cases hx; exact ⟨_, _, rfl, by simp, .inl rfl⟩
  · cases h; cases hx; exact ⟨_, _, rfl, by simp, .inl rfl⟩
  · cases h; cases hx; exact ⟨_, _, rfl, by simp, .inl rfl⟩
  · rename_i b g
    split at h
    · rename_i g' sz' p es hb
      split at h
      · rename_i hg; subst hg; cases h
        cases hx with
        | hs _ _ _ hA h1 hh =>
          obtain ⟨ad, cap, rfl, hcap, hrest⟩ := hh _ _ _ hb
          obtain ⟨⟨hsz0, hrow⟩, hbl⟩ := hS.blk _ _ hb
          refine ⟨ad, cap, rfl, fun i e he => ⟨hlen i e he, (hrow i e he).2.1⟩, ?_⟩
          rcases hbl with ⟨_, rfl⟩ | ⟨B, hi, hlt, _, ar, el, hw, hsz, hr⟩
          · exact .inl rfl
          · rcases hrest with ⟨hn, _⟩ | ⟨B', hi', rfl, _⟩
            · rw [hi] at hn; cases hn
            · rw [hi] at hi'; cases hi'
              refine .inr ⟨B, 0, fun i j => ar[i * sz + j]?.getD default, rfl, fun i e j c he hj => ?_⟩
              have hjl := (List.getElem?_eq_some_iff.1 hj).1
              have e1 : sz' = sz := by rw [← hlen i e he, (hrow i e he).1]
              subst e1
              rw [hlen i e he] at hjl
              have := idx_lt (List.getElem?_eq_some_iff.1 he).1 hjl
              have hv := get_some_of (vs := ar) (i := i * sz' + j) (by omega)
              have e2 : ar[i * sz' + j]?.getD default = ar[i * sz' + j] := by rw [hv]; rfl
              simp only [e2]
              have hrel := hr i e j c _ he hj hv
              exact ⟨by rw [cell_of hw, Nat.zero_add, hv], hrel, hrel.one ((hrow i e he).2.1 c (List.mem_of_getElem? hj))⟩
      · cases h
    · cases h
  · rename_i b g o n
    split at h
    · rename_i g' sz' p es hb
      split at h
      · rename_i hg
        simp only [Bool.and_eq_true, decide_eq_true_eq] at hg
        obtain ⟨rfl, hle⟩ := hg
        cases h
        cases hx with
        | hq _ _ _ _ _ hA h1 hh =>
          obtain ⟨ad, cap, rfl, hcap, hrest⟩ := hh _ _ _ hb hle
          obtain ⟨⟨hsz0, hrow⟩, hbl⟩ := hS.blk _ _ hb
          have hln : ((es.drop o).take n).length = n := by simp; omega
          have hget : ∀ (i : Nat) e, ((es.drop o).take n)[i]? = some e → es[o + i]? = some e := by
            intro i e he
            have hi := (List.getElem?_eq_some_iff.1 he).1
            rw [hln] at hi
            rwa [List.getElem?_take, if_pos hi, List.getElem?_drop] at he
          refine ⟨ad, cap, by rw [hln], fun i e he => ⟨hlen i e he, (hrow _ e (hget i e he)).2.1⟩, ?_⟩
          rcases hbl with ⟨_, rfl⟩ | ⟨B, hi, hlt, _, ar, el, hw, hsz, hr⟩
          · exact .inl (by simp)
          · rcases hrest with ⟨rfl, _⟩ | ⟨hn, _⟩ | ⟨B', hi', rfl, _⟩
            · exact .inl (by simp)
            · rw [hi] at hn; cases hn
            · rw [hi] at hi'; cases hi'
              refine .inr ⟨B, o * sz', fun i j => ar[(o + i) * sz + j]?.getD default, rfl, fun i e j c he hj => ?_⟩
              have hjl := (List.getElem?_eq_some_iff.1 hj).1
              have he' := hget i e he
              have e1 : sz' = sz := by rw [← hlen i e he, (hrow _ e he').1]
              subst e1
              rw [hlen i e he] at hjl
              have := idx_lt (List.getElem?_eq_some_iff.1 he').1 hjl
              have hv := get_some_of (vs := ar) (i := (o + i) * sz' + j) (by omega)
              have e2 : ar[(o + i) * sz' + j]?.getD default = ar[(o + i) * sz' + j] := by rw [hv]; rfl
              simp only [e2]
              have hrel := hr _ e j c _ he' hj hv
              exact ⟨by rw [← Nat.add_mul, cell_of hw, hv], hrel, hrel.one ((hrow _ e he').2.1 c (List.mem_of_getElem? hj))⟩
      · cases h
    · cases h
  · cases h

theorem row_cells {x : AV} {src : List AV} {a : Value} {sz : Nat} (h : rowOf x G.H = some src) (hok : okSrc sz src = true) (hS : StRel G) (hx : VRel G x a) (hsz : 0 < sz) :
    ∃ ad cap, a = .slice ad src.length cap ∧ ∀ n, n ≤ src.length → ∃ F, (Builtin.firstCells sz n a).run P G.w = .ok F.toArray G.w ∧ RowVals G sz (src.take n) F := by
  obtain ⟨ad, cap, rfl, hel, hrest⟩ := row_at h hok hS hx
  refine ⟨ad, cap, rfl, fun n hn => ?_⟩
  rcases hrest with rfl | ⟨B, off, cv, rfl, hcv⟩
  · have : n = 0 := by simpa using hn
    subst this
    refine ⟨[], ?_, by simp [RowVals]⟩
    cases ad <;> simp [Builtin.firstCells, loadCells, loadCellsFrom]
  · have hF : ((List.range (n * sz)).map fun k => cv (k / sz) (k % sz)).length = n * sz := by simp
    have hk : ∀ k v, ((List.range (n * sz)).map fun k => cv (k / sz) (k % sz))[k]? = some v → k < n * sz ∧ v = cv (k / sz) (k % sz) := by
      intro k v hv
      rw [List.getElem?_map, Option.map_eq_some_iff] at hv
      obtain ⟨q, hq, rfl⟩ := hv
      obtain ⟨h1, h2⟩ := List.getElem?_eq_some_iff.1 hq
      simp at h1 h2; subst h2
      exact ⟨h1, rfl⟩
    have hkk : ∀ k, k < n * sz → ∃ e c, src[k / sz]? = some e ∧ e.cells[k % sz]? = some c := by
      intro k hk
      have h1 : k / sz < n := Nat.div_lt_of_lt_mul (by rw [Nat.mul_comm]; exact hk)
      have h2 : k % sz < sz := Nat.mod_lt _ hsz
      have h3 := List.getElem?_eq_getElem (l := src) (i := k / sz) (by omega)
      have h4 := (hel _ _ h3).1
      exact ⟨_, _, h3, List.getElem?_eq_getElem (by omega)⟩
    refine ⟨(List.range (n * sz)).map fun k => cv (k / sz) (k % sz), ?_, ?_, ?_, ?_, ?_⟩
    · have hrun := loadCells_run (P := P) (w := G.w) (B := B) (off := off) (vs := (List.range (n * sz)).map fun k => cv (k / sz) (k % sz)) (fun j v hj => by
        obtain ⟨hlt, rfl⟩ := hk j v hj
        obtain ⟨e, c, h1, h2⟩ := hkk j hlt
        have := (hcv _ _ _ _ h1 h2).1
        rwa [Nat.add_assoc, Nat.mul_comm, Nat.div_add_mod] at this)
      rw [hF] at hrun
      simp only [Builtin.firstCells, hrun]
    · rw [hF, List.length_take, Nat.min_eq_left hn]
    · intro u hu
      obtain ⟨k, hkl⟩ := List.getElem?_of_mem hu
      obtain ⟨hlt, rfl⟩ := hk k u hkl
      obtain ⟨e, c, h1, h2⟩ := hkk k hlt
      exact (hcv _ _ _ _ h1 h2).2.2
    · intro i e he
      rw [List.getElem?_take] at he
      split at he
      · exact hel i e he
      · cases he
    · intro i e j c v he hj hv
      rw [List.getElem?_take] at he
      split at he
      · obtain ⟨hlt, rfl⟩ := hk _ v hv
        have hjl := (List.getElem?_eq_some_iff.1 hj).1
        rw [(hel i e he).1] at hjl
        have hd : (i * sz + j) / sz = i := by rw [Nat.mul_comm, Nat.mul_add_div hsz, Nat.div_eq_of_lt hjl]; rfl
        have hm : (i * sz + j) % sz = j := by rw [Nat.mul_comm, Nat.mul_add_mod, Nat.mod_eq_of_lt hjl]
        rw [hd, hm]
        exact (hcv i e j c he hj).2.1
      · cases he

/-! ### append -/
theorem growBy_le {n M : Nat} (hM : n + (n + 768) / 4 ≤ M) : ∀ (r c : Nat), c ≤ M → Builtin.growBy n r c ≤ M
  | 0, c, h => by simpa [Builtin.growBy] using h
  | r + 1, c, h => by
    simp only [Builtin.growBy]
    split
    · exact h
    · exact growBy_le hM r _ (by omega)
theorem nextcap_le {n c : Nat} (h : c < n) : Builtin.nextslicecap n c ≤ 2 * n := by
  unfold Builtin.nextslicecap
  split
  · omega
  · split
    · omega
    · exact growBy_le (by omega) 4 c (by omega)

theorem run_append_fit {t xt e e' ty : TypeId} {sz sLen sCap n xc : Nat} {base xa : Option Addr} {F : List Value} {w : World} (hu : P.underlying t = some (.slice e)) (hx : P.underlying xt = some (.slice e')) (hsz : size? P e = some sz)
    (hfit : sLen + n ≤ sCap) (hF : (Builtin.firstCells sz n (.slice xa n xc)).run P w = .ok F.toArray w) :
    (Builtin.append_ #[t, xt] ty #[.slice base sLen sCap, .slice xa n xc]).run P w =
      ((match base with | some a => storeCells (a.add (sLen * sz)) F | none => pure () : Sem Unit).run P w).andThen fun _ w' => .ok (.slice base (sLen + n) sCap) w' := by
  cases base <;> simp [Builtin.append_, run_und hu, run_und hx, run_size hsz, Builtin.lenOf, hfit, hF]

theorem run_append_grow {t xt e e' ty : TypeId} {sz sLen sCap n xc N : Nat} {base xa : Option Addr} {O F : List Value} {w : World} {inf : TypeInfo} {z : Value} (hu : P.underlying t = some (.slice e)) (hx : P.underlying xt = some (.slice e'))
    (hi : P.info? e = some inf) (hs : inf.size = sz) (hz : inf.zero = some z) (hb : inf.bytes ≠ 0) (hfit : sCap < sLen + n) (hmax : (sLen + n) * inf.bytes ≤ maxBytes)
    (hN : N = (Question.appendCap (sLen + n) sCap e).cut (w.tape w.drawn (.appendCap (sLen + n) sCap e)))
    (hO : (Builtin.firstCells sz sLen (.slice base sLen sCap)).run P { w with drawn := w.drawn + 1 } = .ok O.toArray { w with drawn := w.drawn + 1 })
    (hF : (Builtin.firstCells sz n (.slice xa n xc)).run P { w with drawn := w.drawn + 1 } = .ok F.toArray { w with drawn := w.drawn + 1 }) :
    (Builtin.append_ #[t, xt] ty #[.slice base sLen sCap, .slice xa n xc]).run P w =
      .ok (.slice (some ⟨w.heap.size, 0, none⟩) (sLen + n) N) (newW { w with drawn := w.drawn + 1 } (.cells (O.toArray ++ F.toArray ++ Builtin.zeroCells z.cells (N - (sLen + n))) e (0, 0))) := by
  have hnf : ¬ sLen + n ≤ sCap := by omega
  have hcap : ¬ Builtin.nextslicecap (sLen + n) sCap * inf.bytes > 2 ^ 48 := by
    have h1 := Nat.mul_le_mul_right inf.bytes (nextcap_le hfit)
    have h2 : 2 * (sLen + n) * inf.bytes ≤ 2 * maxBytes := by rw [Nat.mul_assoc]; omega
    have h3 : 2 * maxBytes ≤ 2 ^ 48 := by decide
    omega
  have hsz : size? P e = some sz := by simp [size?, hi, hs]
  subst hN
  unfold Builtin.append_
  simp only [Sem.run_bind, run_und hu, run_und hx, run_size hsz, Builtin.lenOf, Sem.run_pure, Result.andThen_ok, List.getElem?_toArray, List.getElem?_cons_zero, List.getElem?_cons_succ]
  simp only [hnf, if_false, Bool.false_eq_true, run_info hi, Result.andThen_ok, Sem.run_bind, hb, or_self, and_false, Sem.run_pure, hcap, Sem.run_ite]
  have hch : (choose (.appendCap (sLen + n) sCap e)).run P w = .ok ((Question.appendCap (sLen + n) sCap e).cut (w.tape w.drawn (.appendCap (sLen + n) sCap e))) { w with drawn := w.drawn + 1 } := rfl
  have hzv : ∀ w', (zeroValue e).run P w' = .ok z w' := fun w' => by simp [zeroValue, run_info hi, hz]
  rw [hch]
  simp only [Result.andThen_ok, run_askRoom, hO, hF, Bool.not_false, if_true, hzv, run_newRow']
theorem run_first_nil (sz : Nat) (a : Option Addr) (c : Nat) (w : World) : (Builtin.firstCells sz 0 (.slice a 0 c)).run P w = .ok ([] : List Value).toArray w := by
  cases a <;> simp [Builtin.firstCells, loadCells, loadCellsFrom]
theorem size_zeroCells (z : Array Value) (n : Nat) : (Builtin.zeroCells z n).size = n * z.size := by simp [Builtin.zeroCells]
theorem len_zeroCells (z : Array Value) (n : Nat) : (Builtin.zeroCells z n).toList.length = n * z.size := by simp [Builtin.zeroCells]
theorem appendCap_le (need c : Nat) (e : TypeId) (t : Nat) : need ≤ (Question.appendCap need c e).cut t := by simp [Question.cut]
theorem three_arr (O F : List Value) (R : Array Value) : O.toArray ++ F.toArray ++ R = ((O ++ F) ++ R.toList).toArray := by simp

/-- append to a row that lies nowhere yet -/
theorem append_new {t xt e e' ty : TypeId} {sz nid : Nat} {base : Option Addr} {src : List AV} {x : AV} {cx : Value} {inf : TypeInfo} {z : AV} (hu : P.underlying t = some (.slice e)) (hxu : P.underlying xt = some (.slice e'))
    (hi : P.info? e = some inf) (hs : size? P e = some sz) (hz : zero? P e = some z) (hzl : z.cells.length = sz) (hpos : 0 < sz) (hb : inf.bytes ≠ 0) (hmax : src.length * inf.bytes ≤ maxBytes)
    (hsrc : rowOf x G.H = some src) (hok : okSrc sz src = true) (hne : src ≠ []) (hS : StRel G) (hx : VRel G x cx) (hA : Fresh G nid) :
    OpOk P G (do pure (.value (← Builtin.append_ #[t, xt] ty #[.slice base 0 0, cx]))) nid (.hs nid 0) (G.H.put nid (.sl 0 sz (AV.refFreeL src) src)) := by
  have hd := LStep.draw hS (G.w.drawn + 1)
  obtain ⟨i', zv, hi', hzv, rfl⟩ := zero_some hz
  rw [hi] at hi'; cases hi'
  obtain ⟨i', hi', hsz⟩ := size_some hs
  rw [hi] at hi'; cases hi'
  obtain ⟨xa, xc, rfl, hF⟩ := row_cells (P := P) (G := drawG G (G.w.drawn + 1)) hsrc hok hd.st (hx.ext hd.ext) hpos
  obtain ⟨F, hF, hv⟩ := hF src.length (Nat.le_refl _)
  rw [List.take_length] at hv
  have hlen : 0 < src.length := by cases src with | nil => exact absurd rfl hne | cons a r => simp
  have hrun := run_append_grow (P := P) (ty := ty) (w := G.w) (base := base) (xa := xa) (xc := xc) (sLen := 0) (sCap := 0) (n := src.length) (sz := sz) (O := []) (F := F) hu hxu hi hsz hzv hb (by omega) (by rw [Nat.zero_add]; exact hmax) rfl
    (run_first_nil _ _ _ _) hF
  rw [three_arr, List.nil_append, Nat.zero_add] at hrun
  have hzs : zv.cells.size = sz := by rw [← (ofConst_cells (G := G) zv).1]; exact hzl
  have hcap := appendCap_le src.length 0 e (G.w.tape G.w.drawn (.appendCap src.length 0 e))
  obtain ⟨hL, hr⟩ := newRow_hs (t := e) hd.st (hv.flat (rest := (Builtin.zeroCells zv.cells ((Question.appendCap src.length 0 e).cut (G.w.tape G.w.drawn (.appendCap src.length 0 e)) - src.length)).toList)) hcap hpos (by
    rw [List.size_toArray, List.length_append, hv.1, len_zeroCells, hzs, ← Nat.add_mul]
    exact Nat.mul_le_mul_right _ (by omega)) (nid := nid) hA (AV.refFreeL src) (fun h => h)
  exact ⟨_, _, _, by simp only [Sem.run_bind, hrun, Result.andThen_ok, Sem.run_pure]; rfl, .inl rfl, hd.trans hL, rfl, hr, newG_A⟩

/-- append to a row of the call's own -/
theorem append_row {t xt e e' ty : TypeId} {sz nid b g m cap : Nat} {p : Bool} {ad : Option Addr} {es src : List AV} {x : AV} {cx : Value} {inf : TypeInfo} {z : AV} (hu : P.underlying t = some (.slice e)) (hxu : P.underlying xt = some (.slice e'))
    (hi : P.info? e = some inf) (hs : size? P e = some sz) (hz : zero? P e = some z) (hzl : z.cells.length = sz) (hpos : 0 < sz) (hbs : inf.bytes ≠ 0) (hmax : (m + src.length) * inf.bytes ≤ maxBytes)
    (hsrc : rowOf x G.H = some src) (hok : okSrc sz src = true) (hne : src ≠ []) (hS : StRel G) (hx : VRel G x cx) (hb : G.H.get b = some (.sl g sz p es)) (hme : m ≤ es.length) (hmc : m ≤ cap) (hAb : G.A b g)
    (hbase : (G.ι b = none ∧ ad = none ∧ cap = 0) ∨ ∃ B, G.ι b = some B ∧ ad = some ⟨B, 0, none⟩ ∧ cap * sz ≤ bsz G.w B) :
    OpOk P G (do pure (.value (← Builtin.append_ #[t, xt] ty #[.slice ad m cap, cx]))) nid (.hs b (g + 1)) (G.H.put b (.sl (g + 1) sz (p && AV.refFreeL src) (es.take m ++ src))) := by
  have hlen : 0 < src.length := by cases src with | nil => exact absurd rfl hne | cons a r => simp
  obtain ⟨⟨_, hrow⟩, hblk⟩ := hS.blk _ _ hb
  have hml : (es.take m).length = m := by rw [List.length_take, Nat.min_eq_left hme]
  have hrowOk : ∀ (hsel : ∀ (i : Nat) e, src[i]? = some e → e.cells.length = sz ∧ ∀ c ∈ e.cells, c.one = true), RowOk sz (p && AV.refFreeL src) (es.take m ++ src) := by
    intro hsel
    refine ⟨hpos, fun i y hy => ?_⟩
    rw [List.getElem?_append] at hy
    split at hy
    · rw [List.getElem?_take] at hy
      split at hy
      · have := hrow _ _ hy
        exact ⟨this.1, this.2.1, fun q => this.2.2 (by simp only [Bool.and_eq_true] at q; exact q.1)⟩
      · cases hy
    · have := hsel _ _ hy
      exact ⟨this.1, this.2, fun q => by simp only [Bool.and_eq_true] at q; exact AV.refFreeL_iff.1 q.2 y (List.mem_of_getElem? hy)⟩
  have hres : ∀ {B N : Nat} {w : World}, m + src.length ≤ N → N * sz ≤ bsz w B →
      VRel (growG G b B (.sl (g + 1) sz (p && AV.refFreeL src) (es.take m ++ src)) w) (.hs b (g + 1)) (.slice (some ⟨B, 0, none⟩) (m + src.length) N) := by
    intro B N w h1 h2
    refine .hs b (g + 1) _ (.inr ⟨rfl, rfl⟩) rfl fun sz' p' es' h => ?_
    simp only [growG, get_put, if_true, Option.some.injEq, ABlk.sl.injEq] at h
    obtain ⟨_, rfl, rfl, rfl⟩ := h
    exact ⟨_, N, by rw [List.length_append, hml], by rw [List.length_append, hml]; exact h1, .inr ⟨B, by simp [growG], rfl, h2⟩⟩
  have hAA : ∀ {B : Nat} {w : World} b' g', (growG G b B (.sl (g + 1) sz (p && AV.refFreeL src) (es.take m ++ src)) w).A b' g' → (∃ g', G.A b' g') ∨ (nid ≤ b' ∧ b' < nid + 8) := by
    rintro B w b' g' (h | ⟨rfl, _⟩)
    · exact .inl ⟨_, h⟩
    · exact .inl ⟨_, hAb⟩
  by_cases hfit : m + src.length ≤ cap
  · obtain ⟨xa, xc, rfl, hF⟩ := row_cells (P := P) hsrc hok hS hx hpos
    obtain ⟨F, hF, hv⟩ := hF src.length (Nat.le_refl _)
    rw [List.take_length] at hv
    have hrun := run_append_fit (P := P) (ty := ty) (base := ad) (w := G.w) hu hxu hs hfit hF
    rcases hbase with ⟨_, _, rfl⟩ | ⟨B, hi', rfl, hcb⟩
    · omega
    · rcases hblk with ⟨hn, _⟩ | ⟨B', hi'', hlt, hF', ar, el, hw, hsz, hr⟩
      · rw [hi'] at hn; cases hn
      · rw [hi'] at hi''; cases hi''
        have hcb' : cap * sz ≤ ar.size := by simpa only [bsz, hw] using hcb
        have hfm : (m + src.length) * sz ≤ cap * sz := Nat.mul_le_mul_right sz hfit
        rw [Nat.add_mul] at hfm
        have hFl := hv.1
        have hst := storeCells_run (P := P) (B := B) (e := el) (off := m * sz) F 0 G.w ar hw (by omega) hv.2.1
        simp only [Nat.add_zero] at hst
        simp only [add_none, Nat.zero_add, hst, Result.andThen_ok] at hrun
        have hsize : (spliceV ar.toList (m * sz) F).toArray.size = ar.size := by
          rw [List.size_toArray, spliceV_length (by simp; omega)]; simp
        have hbz : bsz (setObj G.w B (.cells (spliceV ar.toList (m * sz) F).toArray el (0, 0))) B = ar.size := by
          simp only [bsz, heap_setObj_self _ hlt]; exact hsize
        refine ⟨_, _, growG G b B _ (setObj G.w B (.cells (spliceV ar.toList (m * sz) F).toArray el (0, 0))), by simp only [Sem.run_bind, hrun, Result.andThen_ok, Sem.run_pure]; rfl, .inl rfl, ?_, rfl, hres hfit (by rw [hbz]; exact hcb'), hAA⟩
        refine LStep.grow hS hb (by rw [size_setObj]; exact Nat.le_refl _) rfl rfl rfl (fun B' _ hne => heap_setObj_ne _ (fun q => hne (q ▸ hi'))) (.inl hi') fun he => ?_
        refine ⟨hrowOk hv.2.2.1, .inr ⟨B, by simp [growG], by simpa [growG, size_setObj] using hlt, hF', _, el, heap_setObj_self _ hlt, ?_, ?_⟩⟩
        · rw [hsize, List.length_append, hml, Nat.add_mul]; omega
        · intro i y j c v hy hj hcv
          rw [List.getElem?_toArray, spliceV_get (by simp; omega)] at hcv
          rw [List.getElem?_append, hml] at hy
          split at hy
          · rename_i him
            rw [List.getElem?_take, if_pos him] at hy
            have hjl := (List.getElem?_eq_some_iff.1 hj).1
            rw [(hrow _ _ hy).1] at hjl
            have := idx_lt him hjl
            rw [if_neg (by omega)] at hcv
            exact (hr i y j c v hy hj (by simpa using hcv)).ext he
          · rename_i him
            have hjl := (List.getElem?_eq_some_iff.1 hj).1
            rw [(hv.2.2.1 _ _ hy).1] at hjl
            have h1 := idx_lt (List.getElem?_eq_some_iff.1 hy).1 hjl
            have h2 : i * sz = m * sz + (i - m) * sz := by rw [← Nat.add_mul]; congr 1; omega
            rw [if_pos (by omega), show i * sz + j - m * sz = (i - m) * sz + j by omega] at hcv
            exact (hv.2.2.2 _ y j c v hy hj hcv).ext he
  · have hd := LStep.draw hS (G.w.drawn + 1)
    have hq : VRel G (.hq b g 0 m) (.slice ad m cap) := by
      refine .hq b g 0 m _ hAb rfl fun sz' p' es' h hle => ?_
      rw [hb] at h; cases h
      refine ⟨ad, cap, rfl, hmc, .inr ?_⟩
      rcases hbase with ⟨h1, h2, h3⟩ | ⟨B, h1, h2, h3⟩
      · exact .inl ⟨h1, h2, h3, rfl⟩
      · exact .inr ⟨B, h1, by rw [Nat.zero_mul]; exact h2, by rw [Nat.zero_add]; exact h3⟩
    have hqrow : rowOf (.hq b g 0 m) G.H = some (es.take m) := by simp [rowOf, hb, hme]
    have hokE : okSrc sz (es.take m) = true := by
      simp only [okSrc, List.all_eq_true, decide_eq_true_eq]
      intro y hy
      obtain ⟨k, hk⟩ := List.getElem?_of_mem (List.mem_of_mem_take hy)
      exact (hrow k y hk).1
    obtain ⟨i', zv, hi', hzv, rfl⟩ := zero_some hz
    rw [hi] at hi'; cases hi'
    obtain ⟨i', hi', hsz⟩ := size_some hs
    rw [hi] at hi'; cases hi'
    obtain ⟨xa, xc, rfl, hF⟩ := row_cells (P := P) (G := drawG G (G.w.drawn + 1)) hsrc hok hd.st (hx.ext hd.ext) hpos
    obtain ⟨F, hF, hv⟩ := hF src.length (Nat.le_refl _)
    rw [List.take_length] at hv
    obtain ⟨ad', cap', heq, hO⟩ := row_cells (P := P) (G := drawG G (G.w.drawn + 1)) hqrow hokE hd.st (hq.ext hd.ext) hpos
    rw [hml] at heq hO
    cases heq
    obtain ⟨O, hO, hvO⟩ := hO m (Nat.le_refl _)
    rw [List.take_take, Nat.min_self] at hvO
    have hrun := run_append_grow (P := P) (ty := ty) (w := G.w) (base := ad) (xa := xa) (xc := xc) (sLen := m) (sCap := cap) (n := src.length) (sz := sz) (O := O) (F := F) hu hxu hi hsz hzv hbs (by omega) hmax rfl hO hF
    rw [three_arr] at hrun
    have hzs : zv.cells.size = sz := by rw [← (ofConst_cells (G := G) zv).1]; exact hzl
    have hcap := appendCap_le (m + src.length) cap e (G.w.tape G.w.drawn (.appendCap (m + src.length) cap e))
    have hall := hvO.append hv
    generalize hN : (Question.appendCap (m + src.length) cap e).cut (G.w.tape G.w.drawn (.appendCap (m + src.length) cap e)) = N at hrun hcap
    have hfl := hall.flat (rest := (Builtin.zeroCells zv.cells (N - (m + src.length))).toList)
    generalize hU : ((O ++ F) ++ (Builtin.zeroCells zv.cells (N - (m + src.length))).toList).toArray = U at hrun hfl
    have hUs : U.size = N * sz := by
      rw [← hU, List.size_toArray, List.length_append, hall.1, List.length_append, hml, len_zeroCells, hzs, ← Nat.add_mul]
      congr 1; omega
    have hbz : bsz (newW { G.w with drawn := G.w.drawn + 1 } (.cells U e (0, 0))) G.w.heap.size = N * sz := by
      have := new_get { G.w with drawn := G.w.drawn + 1 } (.cells U e (0, 0))
      simp only at this
      simp only [bsz, this]; exact hUs
    have hg : LStep (drawG G (G.w.drawn + 1)) (growG G b G.w.heap.size (.sl (g + 1) sz (p && AV.refFreeL src) (es.take m ++ src)) (newW { G.w with drawn := G.w.drawn + 1 } (.cells U e (0, 0)))) := by
      refine LStep.grow (G := drawG G (G.w.drawn + 1)) hd.st hb (by rw [size_new]; exact Nat.le_succ _) rfl rfl rfl (fun B' hlt _ => ?_) (.inr (Nat.le_refl _)) fun he => ?_
      · rw [heap_new, if_neg]
        · rfl
        · exact Nat.ne_of_lt hlt
      · refine ⟨hrowOk hv.2.2.1, .inr ⟨G.w.heap.size, by simp [growG], by simp [growG, size_new], fun h => absurd (hS.low _ h) (by omega), U, e, ?_, hfl.1, fun i y j c v h1 h2 h3 => (hfl.2.2 i y j c v h1 h2 h3).ext he⟩⟩
        exact new_get { G.w with drawn := G.w.drawn + 1 } _
    exact ⟨_, _, _, by simp only [Sem.run_bind, hrun, Result.andThen_ok, Sem.run_pure]; rfl, .inl rfl, hd.trans hg, rfl, hres hcap (by rw [hbz]; exact Nat.le_refl _), hAA⟩
end mem
end Go.Am
namespace Go.Am
section mem
variable {P : Program} {G : Gh}

theorem append_none {t xt e e' ty : TypeId} {sz sLen sCap xc : Nat} {base xa : Option Addr} {w : World} (hu : P.underlying t = some (.slice e)) (hx : P.underlying xt = some (.slice e')) (hsz : size? P e = some sz) (hle : sLen ≤ sCap) :
    (Builtin.append_ #[t, xt] ty #[.slice base sLen sCap, .slice xa 0 xc]).run P w = .ok (.slice base sLen sCap) w := by
  rw [run_append_fit (F := []) hu hx hsz (by omega) (run_first_nil _ _ _ _)]
  cases base <;> simp [storeCells]

theorem append_sound {t xt ty : TypeId} {s x v : AV} {cs cx : Value} {H' : Heap} {nid : Nat} (h : pAppend P t xt s x nid G.H = some (v, H')) (hS : StRel G) (hs : VRel G s cs) (hx : VRel G x cx) (hA : Fresh G nid) :
    OpOk P G (do pure (.value (← Builtin.append_ #[t, xt] ty #[cs, cx]))) nid v H' := by
  unfold pAppend at h
  split at h
  · rename_i e e' hu hxu
    simp only [Option.bind_eq_some_iff] at h
    obtain ⟨sz, hsz, inf, hinf, z, hz, h⟩ := h
    split at h
    · cases h
    · rename_i hc
      simp only [Bool.or_eq_true, decide_eq_true_eq, not_or, ne_eq, Decidable.not_not] at hc
      obtain ⟨⟨h0, hb⟩, hzl⟩ := hc
      have hpos : 0 < sz := by omega
      obtain ⟨src, hsrc, h⟩ := Option.bind_eq_some_iff.1 h
      split at h
      · rename_i hok
        obtain ⟨xa, xc, hcx⟩ := row_sound hsrc hx
        have hemp : src.isEmpty = true → ∃ xa xc, cx = .slice xa 0 xc := by
          intro q
          rw [List.isEmpty_iff] at q; subst q
          exact ⟨xa, xc, hcx⟩
        have hnil : ∀ base, (src.isEmpty = true → OpOk P G (do pure (.value (← Builtin.append_ #[t, xt] ty #[.slice base 0 0, cx]))) nid s G.H → True) := fun _ _ _ => trivial
        have hnew : ∀ base, src.isEmpty = false → src.length * inf.bytes ≤ maxBytes → OpOk P G (do pure (.value (← Builtin.append_ #[t, xt] ty #[.slice base 0 0, cx]))) nid (.hs nid 0) (G.H.put nid (.sl 0 sz (AV.refFreeL src) src)) := by
          intro base q hm
          exact append_new hu hxu hinf hsz hz hzl hpos hb hm hsrc hok (by rintro rfl; simp at q) hS hx hA
        split at h
        · cases hs
          split at h
          · rename_i q
            cases h
            obtain ⟨xa, xc, rfl⟩ := hemp q
            exact .val hS (append_none hu hxu hsz (Nat.le_refl 0)) .nils
          · rename_i q
            split at h
            · rename_i hm; cases h; exact hnew _ (by simpa using q) hm
            · cases h
        · cases hs
          split at h
          · rename_i q
            cases h
            obtain ⟨xa, xc, rfl⟩ := hemp q
            exact .val hS (append_none hu hxu hsz (Nat.le_refl 0)) (.es0 _)
          · rename_i q
            split at h
            · rename_i hm; cases h; exact hnew _ (by simpa using q) hm
            · cases h
        · rename_i b g
          split at h
          · rename_i g' sz' p es hb'
            split at h
            · rename_i hg
              simp only [Bool.and_eq_true, decide_eq_true_eq] at hg
              obtain ⟨rfl, rfl⟩ := hg
              cases hs with
              | hs _ _ _ hA' h1 hh =>
                obtain ⟨ad, cap, rfl, hcap, hrest⟩ := hh _ _ _ hb'
                split at h
                · rename_i q
                  cases h
                  obtain ⟨xa, xc, rfl⟩ := hemp q
                  exact .val hS (append_none hu hxu hsz hcap) (.hs _ _ _ hA' rfl hh)
                · rename_i q
                  split at h
                  · rename_i hm
                    cases h
                    have := append_row (ty := ty) (nid := nid) hu hxu hinf hsz hz hzl hpos hb hm hsrc hok (by rintro rfl; simp at q) hS hx hb' (Nat.le_refl _) hcap hA' hrest
                    rwa [List.take_length] at this
                  · cases h
            · cases h
          · cases h
        · rename_i b g o n
          split at h
          · rename_i g' sz' p es hb'
            split at h
            · rename_i hg
              simp only [Bool.and_eq_true, decide_eq_true_eq] at hg
              obtain ⟨⟨⟨rfl, rfl⟩, rfl⟩, hle⟩ := hg
              cases hs with
              | hq _ _ _ _ _ hA' h1 hh =>
                obtain ⟨ad, cap, rfl, hcap, hrest⟩ := hh _ _ _ hb' (by omega)
                split at h
                · rename_i q
                  cases h
                  obtain ⟨xa, xc, rfl⟩ := hemp q
                  exact .val hS (append_none hu hxu hsz hcap) (.hq _ _ _ _ _ hA' rfl hh)
                · rename_i q
                  split at h
                  · rename_i hm
                    cases h
                    refine append_row (ty := ty) (nid := nid) hu hxu hinf hsz hz hzl hpos hb hm hsrc hok (by rintro rfl; simp at q) hS hx hb' hle hcap hA' ?_
                    rcases hrest with ⟨_, q⟩ | ⟨h1, h2, h3, _⟩ | ⟨B, h1, h2, h3⟩
                    · exact absurd rfl q
                    · exact .inl ⟨h1, h2, h3⟩
                    · exact .inr ⟨B, h1, by rw [h2, Nat.zero_mul], by rwa [Nat.zero_add] at h3⟩
                  · cases h
            · cases h
          · cases h
        · cases h
      · cases h
  · cases h

/-! ### copy -/
theorem run_copy {t e ty : TypeId} {ts : List TypeId} {sz dLen dCap n xc : Nat} {base xa : Option Addr} {F : List Value} {w : World} (hu : P.underlying t = some (.slice e)) (hsz : size? P e = some sz)
    (hF : (Builtin.firstCells sz (min n dLen) (.slice xa n xc)).run P w = .ok F.toArray w) :
    (Builtin.copy_ (t :: ts).toArray ty #[.slice base dLen dCap, .slice xa n xc]).run P w =
      ((match base with | some a => storeCells a F | none => pure () : Sem Unit).run P w).andThen fun _ w' => .ok (goInt (min n dLen : Nat)) w' := by
  have e1 : Nat.min n dLen = min n dLen := rfl
  cases base <;> simp [Builtin.copy_, run_und hu, run_size hsz, Builtin.lenOf, e1, hF]

/-- copy into a row of the call's own -/
theorem copy_row {t e ty : TypeId} {ts : List TypeId} {sz nid b g o m cap c : Nat} {p : Bool} {ad : Option Addr} {es src : List AV} {x : AV} {cx : Value} (hu : P.underlying t = some (.slice e)) (hs : size? P e = some sz) (hpos : 0 < sz)
    (hsrc : rowOf x G.H = some src) (hok : okSrc sz src = true) (hS : StRel G) (hx : VRel G x cx) (hb : G.H.get b = some (.sl g sz p es)) (hme : o + m ≤ es.length) (hmc : m ≤ cap)
    (hbase : (m = 0 ∧ o ≠ 0) ∨ (G.ι b = none ∧ ad = none ∧ cap = 0 ∧ o = 0) ∨ ∃ B, G.ι b = some B ∧ ad = some ⟨B, o * sz, none⟩ ∧ (o + cap) * sz ≤ bsz G.w B) (hc : c = min src.length m) :
    OpOk P G (do pure (.value (← Builtin.copy_ (t :: ts).toArray ty #[.slice ad m cap, cx]))) nid (.int .i64 c)
      (if c = 0 then G.H else G.H.put b (.sl g sz (p && AV.refFreeL src) (es.take o ++ src.take c ++ es.drop (o + c)))) := by
  obtain ⟨xa, xc, rfl, hF⟩ := row_cells (P := P) hsrc hok hS hx hpos
  obtain ⟨F, hF, hv⟩ := hF c (by omega)
  subst hc
  have hrun := run_copy (P := P) (ty := ty) (ts := ts) (base := ad) (dCap := cap) (w := G.w) hu hs hF
  have hFl := hv.1
  by_cases hc0 : min src.length m = 0
  · have : F = [] := by
      apply List.eq_nil_of_length_eq_zero
      rw [hFl, List.length_take]
      have : min (min src.length m) src.length = 0 := by omega
      rw [this, Nat.zero_mul]
    subst this
    rw [if_pos hc0]
    refine .val hS (hrun.trans ?_) (.int _ _)
    cases ad <;> simp [storeCells, goInt]
  · rw [if_neg hc0]
    obtain ⟨⟨_, hrow⟩, hblk⟩ := hS.blk _ _ hb
    rcases hbase with ⟨rfl, _⟩ | ⟨_, _, rfl, _⟩ | ⟨B, hi', rfl, hcb⟩
    · omega
    · omega
    · rcases hblk with ⟨hn, _⟩ | ⟨B', hi'', hlt, hF', ar, el, hw, hsz, hr⟩
      · rw [hi'] at hn; cases hn
      · rw [hi'] at hi''; cases hi''
        have hcb' : (o + cap) * sz ≤ ar.size := by simpa only [bsz, hw] using hcb
        have htl : (src.take (min src.length m)).length = min src.length m := by rw [List.length_take]; omega
        rw [htl] at hFl
        generalize hcc : min src.length m = c at *
        have hcm : (o + c) * sz ≤ (o + cap) * sz := Nat.mul_le_mul_right sz (by omega)
        rw [Nat.add_mul] at hcm
        have hst := storeCells_run (P := P) (B := B) (e := el) (off := o * sz) F 0 G.w ar hw (by omega) hv.2.1
        simp only [Nat.add_zero] at hst
        simp only [hst, Result.andThen_ok] at hrun
        have hsize : (spliceV ar.toList (o * sz) F).toArray.size = ar.size := by
          rw [List.size_toArray, spliceV_length (by simp; omega)]; simp
        have hln : (es.take o ++ src.take c ++ es.drop (o + c)).length = es.length := by
          rw [List.length_append, List.length_append, htl, List.length_take, List.length_drop]; omega
        have hto : (es.take o).length = o := by rw [List.length_take]; omega
        have hget : ∀ (i : Nat), (es.take o ++ src.take c ++ es.drop (o + c))[i]? = if o ≤ i ∧ i < o + c then src[i - o]? else es[i]? := by
          intro i
          rw [List.append_assoc]
          by_cases h1 : i < o
          · rw [List.getElem?_append_left (by omega), if_neg (by omega), List.getElem?_take, if_pos h1]
          · rw [List.getElem?_append_right (by omega), hto]
            by_cases h2 : i < o + c
            · rw [List.getElem?_append_left (by omega), if_pos (by omega), List.getElem?_take, if_pos (by omega)]
            · rw [List.getElem?_append_right (by omega), if_neg (by omega), List.getElem?_drop, htl]
              congr 1; omega
        refine ⟨_, _, putG G b B _ (.cells (spliceV ar.toList (o * sz) F).toArray el (0, 0)), by simp only [Sem.run_bind, hrun, Result.andThen_ok, Sem.run_pure]; rfl, .inl rfl, ?_, rfl, .int _ _, fun _ g h => .inl ⟨g, h⟩⟩
        refine LStep.put hS hb hi' ⟨rfl, rfl, hln.symm⟩ (fun _ _ _ _ _ => ?_) fun he => ⟨⟨hpos, fun i y hy => ?_⟩, .inr ⟨B, hi', by simpa [putG, size_setObj] using hlt, hF', _, el, heap_setObj_self _ hlt, ?_, ?_⟩⟩
        · simp only [bsz, hw, heap_setObj_self _ hlt]; rw [hsize]; exact Nat.le_refl _
        · rw [hget] at hy
          split at hy
          · rename_i hio
            have := hv.2.2.1 (i - o) y (by rw [List.getElem?_take, if_pos (by omega)]; exact hy)
            exact ⟨this.1, this.2, fun q => by simp only [Bool.and_eq_true] at q; exact AV.refFreeL_iff.1 q.2 y (List.mem_of_getElem? hy)⟩
          · have := hrow _ _ hy
            exact ⟨this.1, this.2.1, fun q => this.2.2 (by simp only [Bool.and_eq_true] at q; exact q.1)⟩
        · rw [hsize, hln]; exact hsz
        · intro i y j d v hy hj hcv
          rw [List.getElem?_toArray, spliceV_get (by simp; omega)] at hcv
          rw [hget] at hy
          split at hy
          · rename_i hio
            have hy' : (src.take c)[i - o]? = some y := by rw [List.getElem?_take, if_pos (by omega)]; exact hy
            have hjl := (List.getElem?_eq_some_iff.1 hj).1
            rw [(hv.2.2.1 _ _ hy').1] at hjl
            have h1 := idx_lt (n := c) (i := i - o) (by omega) hjl
            have h2 : i * sz = o * sz + (i - o) * sz := by rw [← Nat.add_mul]; congr 1; omega
            rw [if_pos (by omega), show i * sz + j - o * sz = (i - o) * sz + j by omega] at hcv
            exact (hv.2.2.2 _ y j d v hy' hj hcv).ext he
          · rename_i hio
            have hjl := (List.getElem?_eq_some_iff.1 hj).1
            rw [(hrow _ _ hy).1] at hjl
            rw [if_neg] at hcv
            · exact (hr i y j d v hy hj (by simpa using hcv)).ext he
            · rintro ⟨q1, q2⟩
              rcases Nat.lt_or_ge i o with hlt' | hge
              · have := idx_lt hlt' hjl; omega
              · have h3 : (o + c) * sz ≤ i * sz := Nat.mul_le_mul_right sz (by omega)
                rw [Nat.add_mul] at h3; omega

theorem copy_sound {t ty : TypeId} {ts : List TypeId} {d x v : AV} {cd cx : Value} {H' : Heap} {nid : Nat} (h : pCopy P t d x G.H = some (v, H')) (hS : StRel G) (hd : VRel G d cd) (hx : VRel G x cx) :
    OpOk P G (do pure (.value (← Builtin.copy_ (t :: ts).toArray ty #[cd, cx]))) nid v H' := by
  unfold pCopy at h
  split at h
  · rename_i e hu
    simp only [Option.bind_eq_some_iff] at h
    obtain ⟨sz, hsz, h⟩ := h
    split at h
    · cases h
    · rename_i h0
      have hpos : 0 < sz := by omega
      obtain ⟨src, hsrc, h⟩ := Option.bind_eq_some_iff.1 h
      split at h
      · rename_i hok
        split at h
        · rename_i b g
          split at h
          · rename_i g' sz' p es hb'
            split at h
            · rename_i hg
              simp only [Bool.and_eq_true, decide_eq_true_eq] at hg
              obtain ⟨rfl, rfl⟩ := hg
              cases hd with
              | hs _ _ _ hA' h1 hh =>
                obtain ⟨ad, cap, rfl, hcap, hrest⟩ := hh _ _ _ hb'
                have := copy_row (ty := ty) (ts := ts) (nid := nid) (o := 0) hu hsz hpos hsrc hok hS hx hb' (by omega) hcap (.inr (hrest.imp (fun q => ⟨q.1, q.2.1, q.2.2, rfl⟩) (fun ⟨B, q1, q2, q3⟩ => ⟨B, q1, by rw [Nat.zero_mul]; exact q2, by rw [Nat.zero_add]; exact q3⟩))) rfl
                split at h
                · rename_i q
                  cases h
                  rw [if_pos q, q] at this; exact this
                · rename_i q
                  cases h
                  rw [if_neg q] at this
                  simpa using this
            · cases h
          · cases h
        · rename_i b g o n
          split at h
          · rename_i g' sz' p es hb'
            split at h
            · rename_i hg
              simp only [Bool.and_eq_true, decide_eq_true_eq] at hg
              obtain ⟨⟨rfl, rfl⟩, hle⟩ := hg
              cases hd with
              | hq _ _ _ _ _ hA' h1 hh =>
                obtain ⟨ad, cap, rfl, hcap, hrest⟩ := hh _ _ _ hb' hle
                have := copy_row (ty := ty) (ts := ts) (nid := nid) hu hsz hpos hsrc hok hS hx hb' hle hcap hrest rfl
                split at h
                · rename_i q
                  cases h
                  rw [if_pos q, q] at this; exact this
                · rename_i q
                  cases h
                  rw [if_neg q] at this
                  exact this
            · cases h
          · cases h
        · cases h
      · cases h
  · cases h
end mem
end Go.Am
namespace Go.Am
section mem
variable {P : Program} {G : Gh} {w : World}

theorem fold_true {α : Type} (g : α → Option Bool) : ∀ (l : List α), l.foldl (fun acc x => acc.bind fun (q : Bool) => if q then g x else some false) (some true) = some true → ∀ x ∈ l, g x = some true
  | [], _, x, hx => by simp at hx
  | y :: r, h, x, hx => by
    simp only [List.foldl_cons, Option.bind_some, if_true] at h
    cases hy : g y with
    | none => rw [hy, fold_none] at h; cases h
    | some b =>
      rw [hy] at h
      cases b with
      | false => rw [fold_false] at h; cases h
      | true =>
        rcases List.mem_cons.1 hx with rfl | hx
        · exact hy
        · exact fold_true g r h x hx
theorem forIn_unit {α : Type} (body : α → PUnit → Sem (ForInStep PUnit)) : ∀ (l : List α), (∀ x ∈ l, ∀ s, (body x s).run P w = .ok (.yield ⟨⟩) w) → (forIn l ⟨⟩ body : Sem PUnit).run P w = .ok ⟨⟩ w
  | [], _ => by simp
  | x :: l, h => by
    rw [List.forIn_cons, Sem.run_bind, h x (by simp)]
    exact forIn_unit body l fun y hy => h y (by simp [hy])

theorem checkKey_sound {em : Bool} : ∀ (n d : Nat) (t : TypeId) (x y : AV) (a : Value), n ≤ d → aeq P n t x y = some true → VRel G x a → (Instr.checkKey em d t a).run P w = .ok () w
  | 0, _, _, _, _, _, _, h, _ => by simp [aeq] at h
  | n + 1, 0, _, _, _, _, hd, _, _ => by omega
  | n + 1, d + 1, t, x, y, a, hd, h, hx => by
    unfold aeq at h
    split at h
    · rename_i hu
      cases hx
      simp [Instr.checkKey, run_und hu]
    · rename_i hu
      cases hx
      simp [Instr.checkKey, run_und hu]
    · rename_i hu
      cases hx
      simp [Instr.checkKey, run_und hu]
    · rename_i fs xs ys hu
      split at h
      · cases h
      · obtain ⟨va, rfl, hla, hra⟩ := hx.cellsAgg
        have hall := fold_true _ _ h
        simp only [Instr.checkKey, Sem.run_bind, run_und hu, Result.andThen_ok]
        rw [← Array.forIn_toList]
        refine (congrArg (fun r => Result.andThen r _) (forIn_unit _ _ fun f hf s => ?_)).trans rfl
        have hg := hall f hf
        by_cases hname : f.name = "_"
        · simp [hname]
        · simp only [hname, if_false, Option.bind_eq_some_iff] at hg
          obtain ⟨u, hu', v, hv', hq⟩ := hg
          obtain ⟨cu, h1, h2⟩ := part_sound (P := P) (w := w) hu' hla hra
          have h5 := checkKey_sound (em := em) n d f.type u v cu (by omega) hq h2
          simp [hname, h1, h5]
    · rename_i len e xs ys hu
      simp only [Option.bind_eq_some_iff] at h
      obtain ⟨n', hn', h⟩ := h
      obtain ⟨va, rfl, hla, hra⟩ := hx.cellsAgg
      have hall := fold_true _ _ h
      simp only [Instr.checkKey, Sem.run_bind, run_und hu, Result.andThen_ok, run_size hn']
      rw [Std.Legacy.Range.forIn_eq_forIn_range']
      simp only [Std.Legacy.Range.size, Nat.sub_zero, Nat.add_sub_cancel, Nat.div_one]
      rw [show (List.range' 0 len) = List.range len by rw [List.range_eq_range']]
      refine (congrArg (fun r => Result.andThen r _) (forIn_unit _ _ fun i hi s => ?_)).trans rfl
      have hg := hall i hi
      simp only [Option.bind_eq_some_iff] at hg
      obtain ⟨u, hu', v, hv', hq⟩ := hg
      obtain ⟨cu, h1, h2⟩ := part_sound (P := P) (w := w) hu' hla hra
      have h5 := checkKey_sound (em := em) n d e u v cu (by omega) hq h2
      simp [run_size hn', h1, h5]
    · cases h

theorem sameNow_aeq {n : Nat} {t : TypeId} {d : TypeDesc} {x y : AV} {a c : Value} {b b' : Bool} (hu : P.underlying t = some d) (h : aeq P (n + 1) t x y = some b) (hx : VRel G x a) (hy : VRel G y c) (hs : Instr.sameNow d a c = some b') : b = b' := by
  unfold aeq at h
  rw [hu] at h
  split at h
  · cases hx; cases hy; simp_all [Instr.sameNow]
  · split at h
    · cases hx; cases hy; simp_all [Instr.sameNow]
    · cases h
  · cases hx; cases hy; simp_all [Instr.sameNow]
  · rename_i heq; cases heq; obtain ⟨va, rfl, _⟩ := hx.cellsAgg; obtain ⟨vc, rfl, _⟩ := hy.cellsAgg; simp [Instr.sameNow] at hs
  · rename_i heq; cases heq; obtain ⟨va, rfl, _⟩ := hx.cellsAgg; obtain ⟨vc, rfl, _⟩ := hy.cellsAgg; simp [Instr.sameNow] at hs
  · cases h

/-- keys beside entries -/
def KeysRel (G : Gh) (ks : List AV) (es : List MapEntry) : Prop := ks.length = es.length ∧ ∀ (i : Nat) k e, ks[i]? = some k → es[i]? = some e → VRel G k e.key
theorem KeysRel.tail {k : AV} {ks : List AV} {e : MapEntry} {es : List MapEntry} (h : KeysRel G (k :: ks) (e :: es)) : KeysRel G ks es :=
  ⟨by simpa using h.1, fun i k' e' a b => h.2 (i + 1) k' e' (by simpa using a) (by simpa using b)⟩
theorem findK_asking {t : TypeId} {k : AV} {a : Value} (hk : VRel G k a) : ∀ {ks : List AV} {es : List MapEntry} {i : Nat} {r : Option Nat}, KeysRel G ks es → findK P t k ks i = some r →
    ∃ q, (Instr.findAsking t a es i).run P w = .ok q w ∧ q.map (·.1) = r ∧ (∀ j v, q = some (j, v) → i ≤ j ∧ ∃ e, es[j - i]? = some e ∧ v = e.val)
  | [], es, i, r, hr, h => by
    have : es = [] := List.eq_nil_of_length_eq_zero hr.1.symm
    subst this
    simp only [findK, Option.some.injEq] at h; subst h
    exact ⟨none, rfl, rfl, by simp⟩
  | x :: ks, [], _, _, hr, _ => by have := hr.1; simp at this
  | x :: ks, e :: es, i, r, hr, h => by
    simp only [findK, Option.bind_eq_some_iff] at h
    obtain ⟨b, hb, h⟩ := h
    have hx := hr.2 0 x e rfl rfl
    have heq : (Op.equal t a e.key).run P w = .ok b w := by rw [equal_in]; exact aeq_sound 10 (9999 + 1) t k x a e.key b (by omega) hb hk hx
    cases b with
    | true =>
      simp only [if_true, Option.some.injEq] at h; subst h
      refine ⟨some (i, e.val), by simp [Instr.findAsking, heq], rfl, ?_⟩
      rintro j v q; cases q
      exact ⟨Nat.le_refl _, e, by simp, rfl⟩
    | false =>
      simp only [Bool.false_eq_true, if_false] at h
      obtain ⟨q, h1, h2, h3⟩ := findK_asking hk hr.tail h
      refine ⟨q, by simp [Instr.findAsking, heq, h1], h2, ?_⟩
      intro j v hq
      obtain ⟨h4, e', h5, h6⟩ := h3 j v hq
      refine ⟨by omega, e', ?_, h6⟩
      rw [show j - i = (j - (i + 1)) + 1 by omega]
      simpa using h5
theorem findK_now {t : TypeId} {d : TypeDesc} {k : AV} {a : Value} (hu : P.underlying t = some d) (hk : VRel G k a) : ∀ {ks : List AV} {es : List MapEntry} {i : Nat} {r : Option Nat} {q : Option (Nat × Value)}, KeysRel G ks es → findK P t k ks i = some r →
    Instr.findNow d a es i = some q → q.map (·.1) = r ∧ (∀ j v, q = some (j, v) → i ≤ j ∧ ∃ e, es[j - i]? = some e ∧ v = e.val)
  | [], es, i, r, q, hr, h, hq => by
    have : es = [] := List.eq_nil_of_length_eq_zero hr.1.symm
    subst this
    simp only [findK, Option.some.injEq] at h; subst h
    simp only [Instr.findNow, Option.some.injEq] at hq; subst hq
    exact ⟨rfl, by simp⟩
  | x :: ks, [], _, _, _, hr, _, _ => by have := hr.1; simp at this
  | x :: ks, e :: es, i, r, q, hr, h, hq => by
    simp only [findK, Option.bind_eq_some_iff] at h
    obtain ⟨b, hb, h⟩ := h
    have hx := hr.2 0 x e rfl rfl
    simp only [Instr.findNow] at hq
    split at hq
    · rename_i hs
      have := sameNow_aeq hu hb hk hx hs
      subst this
      cases hq
      simp only [if_true, Option.some.injEq] at h; subst h
      refine ⟨rfl, ?_⟩
      rintro j v q; cases q
      exact ⟨Nat.le_refl _, e, by simp, rfl⟩
    · rename_i hs
      have := sameNow_aeq hu hb hk hx hs
      subst this
      simp only [Bool.false_eq_true, if_false] at h
      obtain ⟨h2, h3⟩ := findK_now hu hk hr.tail h hq
      refine ⟨h2, ?_⟩
      intro j v hq
      obtain ⟨h4, e', h5, h6⟩ := h3 j v hq
      refine ⟨by omega, e', ?_, h6⟩
      rw [show j - i = (j - (i + 1)) + 1 by omega]
      simpa using h5
    · cases hq
theorem aeq_und {n : Nat} {t : TypeId} {x y : AV} {b : Bool} (h : aeq P n t x y = some b) : ∃ d, P.underlying t = some d := by
  cases n with
  | zero => simp [aeq] at h
  | succ n =>
    cases hu : P.underlying t with
    | none => unfold aeq at h; rw [hu] at h; simp at h
    | some d => exact ⟨d, rfl⟩
theorem findK_sound {t : TypeId} {k : AV} {a : Value} {ks : List AV} {es : List MapEntry} {r : Option Nat} (hu : ∃ d, P.underlying t = some d) (hk : VRel G k a) (hr : KeysRel G ks es) (h : findK P t k ks 0 = some r) :
    ∃ q, (Instr.findKey t a es).run P w = .ok q w ∧ q.map (·.1) = r ∧ (∀ j v, q = some (j, v) → ∃ e, es[j]? = some e ∧ v = e.val) := by
  obtain ⟨d, hu⟩ := hu
  cases hn : Instr.findNow d a es 0 with
  | none =>
    obtain ⟨q, h1, h2, h3⟩ := findK_asking (w := w) hk hr h
    exact ⟨q, by simp [Instr.findKey, run_und hu, hn, h1], h2, fun j v hq => by obtain ⟨_, e, h4, h5⟩ := h3 j v hq; exact ⟨e, by simpa using h4, h5⟩⟩
  | some q =>
    obtain ⟨h2, h3⟩ := findK_now hu hk hr h hn
    exact ⟨q, by simp [Instr.findKey, run_und hu, hn], h2, fun j v hq => by obtain ⟨_, e, h4, h5⟩ := h3 j v hq; exact ⟨e, by simpa using h4, h5⟩⟩

theorem map_sound {m : AV} {ks vs : List AV} {c : Value} (h : mapOf m G.H = some (ks, vs)) (hS : StRel G) (hm : VRel G m c) :
    ∃ es : Array MapEntry, KeysRel G ks es.toList ∧ vs.length = es.size ∧ (∀ (i : Nat) v e, vs[i]? = some v → es[i]? = some e → VRel G v e.val) ∧
      ((c = .map none ∧ es = #[]) ∨ ∃ r clock, c = .map (some r) ∧ G.w.heap[r]? = some (.map es clock)) := by
  unfold mapOf at h
  split at h
  · cases h; cases hm
    exact ⟨#[], ⟨rfl, by simp⟩, rfl, by simp, .inl ⟨rfl, rfl⟩⟩
  · cases h
    cases hm with
    | fm _ _ r es clock hM hB hw hk hv hok hok' h1 h2 =>
      exact ⟨es, ⟨by simpa using hk, fun i k e a b => h1 i k e a (by simpa using b)⟩, hv, h2, .inr ⟨r, clock, rfl, hw⟩⟩
  · rename_i b
    split at h
    · rename_i ks' vs' hb
      cases h
      cases hm with
      | hm _ _ hb' h1 hh =>
        obtain ⟨B, hi, rfl⟩ := hh _ _ hb
        obtain ⟨B', hi', hlt, _, es, clock, hw, hk, hv, h1, h2⟩ := hS.blk _ _ hb
        rw [hi] at hi'; cases hi'
        exact ⟨es, ⟨by simpa using hk, fun i k e a b => h1 i k e a (by simpa using b)⟩, hv, h2, .inr ⟨B, clock, rfl, hw⟩⟩
    · cases h
  · cases h

theorem pLookup_sound {t : TypeId} {m k v : AV} {cm ck : Value} {ok : Bool} (h : pLookup P t m k ok G.H = some v) (hS : StRel G) (hm : VRel G m cm) (hk : VRel G k ck) :
    ∃ c, (Instr.lookup t cm ck ok).run P G.w = .ok c G.w ∧ VRel G v c := by
  unfold pLookup at h
  split at h
  · rename_i kt e hu
    split at h
    · rename_i hpk
      simp only [plainKey, Bool.and_eq_true, beq_iff_eq] at hpk
      simp only [Option.bind_eq_some_iff, Option.map_eq_some_iff] at h
      obtain ⟨⟨ks, vs⟩, hmap, r, hr, u, hu', rfl⟩ := h
      obtain ⟨es, hkr, hvl, hvr, hc⟩ := map_sound hmap hS hm
      obtain ⟨q, hq, hqr, hqv⟩ := findK_sound (w := G.w) (aeq_und hpk.2) hk hkr hr
      have hck : ∀ em, (Instr.checkKey em 10000 kt ck).run P G.w = .ok () G.w := fun em => checkKey_sound 10 10000 kt k k ck (by omega) hpk.2 hk
      have hval : ∃ uv, VRel G u uv ∧ ((∃ j, q = some (j, uv) ∧ r = some j) ∨ (q = none ∧ r = none ∧ (zeroValue e).run P G.w = .ok uv G.w)) := by
        cases q with
        | none =>
          simp only [Option.map_none] at hqr; subst hqr
          obtain ⟨zv, hz, hzr, _⟩ := run_zero (w := G.w) G hu'
          exact ⟨zv, hzr, .inr ⟨rfl, rfl, hz⟩⟩
        | some p =>
          obtain ⟨j, uv⟩ := p
          simp only [Option.map_some] at hqr; subst hqr
          obtain ⟨en, he, rfl⟩ := hqv j uv rfl
          exact ⟨_, hvr j u en hu' (by simpa using he), .inl ⟨j, rfl, rfl⟩⟩
      obtain ⟨uv, hrel, hcase⟩ := hval
      have hrun : (Instr.lookup t cm ck ok).run P G.w = .ok (if ok then .tuple #[uv, .bool r.isSome] else uv) G.w := by
        rcases hc with ⟨rfl, rfl⟩ | ⟨rr, clock, rfl, hw⟩ <;> rcases hcase with ⟨j, rfl, rfl⟩ | ⟨rfl, rfl, hz⟩
        · simp only [Instr.lookup, Sem.run_bind, run_und hu, Result.andThen_ok, Sem.run_pure, hck, hq]; rfl
        · simp only [Instr.lookup, Sem.run_bind, run_und hu, Result.andThen_ok, Sem.run_pure, hck, hq, hz]; rfl
        · have hg : (getObj rr).run P G.w = .ok (.map es clock) G.w := by simp [getObj, Sem.run, hw]
          simp only [Instr.lookup, Sem.run_bind, run_und hu, Result.andThen_ok, Sem.run_pure, hg, hck, hq]; rfl
        · have hg : (getObj rr).run P G.w = .ok (.map es clock) G.w := by simp [getObj, Sem.run, hw]
          simp only [Instr.lookup, Sem.run_bind, run_und hu, Result.andThen_ok, Sem.run_pure, hg, hck, hq, hz]; rfl
      refine ⟨_, hrun, ?_⟩
      cases ok with
      | false => simpa using hrel
      | true =>
        simp only [if_true]
        refine .tup _ _ rfl fun i c v h1 h2 => ?_
        match i with
        | 0 => simp at h1 h2; subst h1; subst h2; exact hrel
        | 1 => simp at h1 h2; subst h1; subst h2; exact .bool _
        | n + 2 => simp at h1
    · cases h
  · cases h

theorem eqInts_sound {x k : AV} {a c : Value} (h : eqInts x k = true) (hx : VRel G x a) (hk : VRel G k c) : a = c ∧ ∀ n, Instr.sameBits (n + 1) c c = true := by
  unfold eqInts at h
  split at h
  · simp only [Bool.and_eq_true, beq_iff_eq] at h
    obtain ⟨rfl, rfl⟩ := h
    cases hx; cases hk; exact ⟨rfl, fun n => by simp [Instr.sameBits]⟩
  · simp only [beq_iff_eq] at h
    subst h
    cases hx; cases hk; exact ⟨rfl, fun n => by simp [Instr.sameBits]⟩
  · simp only [Bool.and_eq_true, decide_eq_true_eq] at h
    obtain ⟨rfl, h2⟩ := h
    cases hx; cases hk; exact ⟨rfl, fun n => by simpa [Instr.sameBits] using h2⟩
  · rename_i cs ds
    simp only [Bool.and_eq_true, beq_iff_eq, List.all_eq_true] at h
    obtain ⟨hl, hall⟩ := h
    obtain ⟨va, rfl, hla, hra⟩ := hx.cellsAgg
    obtain ⟨vc, rfl, hlc, hrc⟩ := hk.cellsAgg
    have hpt : ∀ (i : Nat) (u v : Value), va[i]? = some u → vc[i]? = some v → u = v ∧ ∃ kk n, v = .int kk n := by
      intro i u v h1 h2
      have hi1 := (Array.getElem?_eq_some_iff.1 h1).1
      have hi2 := (Array.getElem?_eq_some_iff.1 h2).1
      have g1 := List.getElem?_eq_getElem (l := cs) (i := i) (by omega)
      have g2 := List.getElem?_eq_getElem (l := ds) (i := i) (by omega)
      have hmem : (cs[i]'(by omega), ds[i]'(by omega)) ∈ cs.zip ds := by
        apply List.mem_of_getElem? (i := i)
        rw [List.getElem?_zip_eq_some]; exact ⟨g1, g2⟩
      have hq := hall _ hmem
      have r1 := hra i _ _ g1 h1
      have r2 := hrc i _ _ g2 h2
      generalize cs[i]'(by omega) = p at *
      generalize ds[i]'(by omega) = q at *
      split at hq
      · rename_i k1 a1 k2 a2 e1 e2
        simp only [Bool.and_eq_true, beq_iff_eq] at hq
        obtain ⟨rfl, rfl⟩ := hq
        subst e1; subst e2
        cases r1; cases r2
        exact ⟨rfl, _, _, rfl⟩
      · cases hq
    have hav : va = vc := by
      apply Array.ext_getElem?
      intro i
      by_cases hi : i < va.size
      · have h1 := get_some_of (vs := va) hi
        have h2 := get_some_of (vs := vc) (i := i) (by omega)
        rw [h1, h2, (hpt i _ _ h1 h2).1]
      · rw [Array.getElem?_eq_none (by omega), Array.getElem?_eq_none (by omega)]
    subst hav
    refine ⟨rfl, fun n => ?_⟩
    simp only [Instr.sameBits, beq_self_eq_true, Bool.true_and, List.all_eq_true]
    rintro ⟨u, v⟩ huv
    obtain ⟨i, hi⟩ := List.getElem?_of_mem huv
    rw [List.getElem?_zip_eq_some] at hi
    obtain ⟨hu, kk, nn, hv⟩ := hpt i u v (by simpa using hi.1) (by simpa using hi.2)
    subst hu; subst hv
    cases n <;> simp [Instr.sameBits]
  · cases h

theorem pMapUpdate_sound {t : TypeId} {m k v : AV} {cm ck cv : Value} {H' : Heap} {nid : Nat} (h : pMapUpdate P t m k v G.H = some H') (hS : StRel G) (hm : VRel G m cm) (hk : VRel G k ck) (hv : VRel G v cv) :
    OpOk P G (do Instr.mapUpdate t cm ck cv; pure .skip) nid (.tup []) H' := by
  unfold pMapUpdate at h
  split at h
  · rename_i kt et b hu
    split at h
    · rename_i hpk
      simp only [plainKey, Bool.and_eq_true, beq_iff_eq] at hpk
      split at h
      · rename_i ks vs hb
        simp only [Option.bind_eq_some_iff] at h
        obtain ⟨r, hr, h⟩ := h
        cases hm with
        | hm _ _ hb' h1 hh =>
          obtain ⟨B, hi, rfl⟩ := hh _ _ hb
          obtain ⟨B', hi', hlt, hF, es, clock, hw, hkl, hvl, hkr, hvr⟩ := hS.blk _ _ hb
          rw [hi] at hi'; cases hi'
          have hKR : KeysRel G ks es.toList := ⟨by simpa using hkl, fun i k e a b => hkr i k e a (by simpa using b)⟩
          obtain ⟨q, hq, hqr, hqv⟩ := findK_sound (w := G.w) (aeq_und hpk.2) hk hKR hr
          have hck : (Instr.checkKey false 10000 kt ck).run P G.w = .ok () G.w := checkKey_sound 10 10000 kt k k ck (by omega) hpk.2 hk
          have hg : (getObj B).run P G.w = .ok (.map es clock) G.w := by simp [getObj, Sem.run, hw]
          have hset : ∀ o, (Go.setObj B o).run P G.w = .ok () (setObj G.w B o) := fun o => by simp [Go.setObj, Sem.run, hw, setObj]
          split at h
          · rename_i i
            split at h
            · rename_i heq
              cases h
              cases q with
              | none => simp at hqr
              | some p =>
                obtain ⟨j, uv⟩ := p
                simp only [Option.map_some, Option.some.injEq] at hqr; subst hqr
                obtain ⟨en, he, rfl⟩ := hqv j uv rfl
                have he' : es[j]? = some en := by simpa using he
                have hjl := (Array.getElem?_eq_some_iff.1 he').1
                have hkj := List.getElem?_eq_getElem (l := ks) (i := j) (by omega)
                have hkd : ks.getD j .undef = ks[j]'(by omega) := by rw [List.getD_eq_getElem?_getD, hkj]; rfl
                rw [hkd] at heq
                obtain ⟨hkey, hsb⟩ := eqInts_sound heq (hkr j _ en hkj he') hk
                have hst : (Instr.keyThatStays (((es[j]?).map (·.key)).getD ck) ck).run P G.w = .ok ck G.w := by
                  rw [he']
                  simp only [Option.map_some, Option.getD_some, hkey, Instr.keyThatStays]
                  have : Instr.sameBits 10000 ck ck = true := hsb 9999
                  rw [this]; rfl
                refine ⟨.skip, undef, putG G b B (.map ks (vs.set j v)) (.map (es.modify j fun e => { e with key := ck, val := cv }) clock), ?_, .inr ⟨rfl, rfl⟩, ?_, rfl, .tup [] #[] rfl (by simp), fun _ g h => .inl ⟨g, h⟩⟩
                · simp only [Instr.mapUpdate, Sem.run_bind, run_und hu, Result.andThen_ok, hg, hck, hq, hst, hset, Sem.run_pure]; rfl
                · refine LStep.put hS hb hi trivial (by simp) fun hx => ⟨B, hi, by simpa [putG, size_setObj] using hlt, hF, _, clock, heap_setObj_self _ hlt, by simpa using hkl, by simpa using hvl, ?_, ?_⟩
                  · intro n k' e' h1 h2
                    rw [Array.getElem?_modify] at h2
                    split at h2
                    · rename_i hjn; subst hjn
                      rw [he'] at h2; cases h2
                      have := hkr j k' en h1 he'
                      rw [hkey] at this
                      exact this.ext hx
                    · exact (hkr n k' e' h1 h2).ext hx
                  · intro n v' e' h1 h2
                    rw [Array.getElem?_modify] at h2
                    rw [List.getElem?_set] at h1
                    split at h2
                    · rename_i hjn; subst hjn
                      rw [he'] at h2; cases h2
                      rw [if_pos rfl, if_pos (by omega)] at h1; cases h1
                      exact hv.ext hx
                    · rename_i hjn
                      rw [if_neg hjn] at h1
                      exact (hvr n v' e' h1 h2).ext hx
            · cases h
          · cases h
            cases q with
            | some p => simp at hqr
            | none =>
              refine ⟨.skip, undef, putG G b B (.map (ks ++ [k]) (vs ++ [v])) (.map (es.push { key := ck, val := cv, born := clock }) (clock + 1)), ?_, .inr ⟨rfl, rfl⟩, ?_, rfl, .tup [] #[] rfl (by simp), fun _ g h => .inl ⟨g, h⟩⟩
              · simp only [Instr.mapUpdate, Sem.run_bind, run_und hu, Result.andThen_ok, hg, hck, hq, hset, Sem.run_pure]; rfl
              · refine LStep.put hS hb hi trivial (by simp) fun hx => ⟨B, hi, by simpa [putG, size_setObj] using hlt, hF, _, _, heap_setObj_self _ hlt, by simp [hkl], by simp [hvl], ?_, ?_⟩
                · intro n k' e' h1 h2
                  rw [Array.getElem?_push] at h2
                  rw [List.getElem?_append] at h1
                  split at h2
                  · cases h2
                    rw [if_neg (by omega)] at h1
                    have : n - ks.length = 0 := by omega
                    rw [this] at h1; simp at h1; subst h1
                    exact hk.ext hx
                  · rename_i hne
                    have := (Array.getElem?_eq_some_iff.1 h2).1
                    rw [if_pos (by omega)] at h1
                    exact (hkr n k' e' h1 h2).ext hx
                · intro n v' e' h1 h2
                  rw [Array.getElem?_push] at h2
                  rw [List.getElem?_append] at h1
                  split at h2
                  · cases h2
                    rw [if_neg (by omega)] at h1
                    have : n - vs.length = 0 := by omega
                    rw [this] at h1; simp at h1; subst h1
                    exact hv.ext hx
                  · rename_i hne
                    have := (Array.getElem?_eq_some_iff.1 h2).1
                    rw [if_pos (by omega)] at h1
                    exact (hvr n v' e' h1 h2).ext hx
      · cases h
    · cases h
  · cases h
end mem
end Go.Am
namespace Go.Am
section ops
variable {P : Program} {G : Gh}

theorem OpOk.congr {s s' : Sem Next} {nid : Nat} {v : AV} {H' : Heap} (h : OpOk P G s nid v H') (e : s'.run P G.w = s.run P G.w) : OpOk P G s' nid v H' := by
  obtain ⟨nx, cv, G2, h1, h2⟩ := h
  exact ⟨nx, cv, G2, e.trans h1, h2⟩
theorem arr1 {α : Type} {c : Array α} {a : α} (h : c.toList = [a]) : c = #[a] := by cases c; simp at h; subst h; rfl
theorem arr2 {α : Type} {c : Array α} {a b : α} (h : c.toList = [a, b]) : c = #[a, b] := by cases c; simp at h; subst h; rfl
theorem arr3 {α : Type} {c : Array α} {a b d : α} (h : c.toList = [a, b, d]) : c = #[a, b, d] := by cases c; simp at h; subst h; rfl
theorem orel_map {ρ : Operand → AV} {ev : Operand → Value} {x : Option Operand} (h : ∀ y ∈ x.toList, VRel G (ρ y) (ev y)) : ORel G (x.map ρ) (x.map ev) := by
  cases x with
  | none => trivial
  | some y => exact h y (by simp)
theorem rel_arr {ρ : Operand → AV} {ev : Operand → Value} {xs : Array Operand} (h : ∀ y ∈ xs.toList, VRel G (ρ y) (ev y)) : CsRel G (xs.toList.map ρ) (xs.map ev) := by
  refine ⟨by simp, fun i c v hc hv => ?_⟩
  rw [List.getElem?_map, Option.map_eq_some_iff] at hc
  obtain ⟨y, hy, rfl⟩ := hc
  rw [Array.getElem?_map, Option.map_eq_some_iff] at hv
  obtain ⟨z, hz, rfl⟩ := hv
  have : y = z := by rw [Array.getElem?_toList] at hy; rw [hy] at hz; cases hz; rfl
  subst this
  exact h y (List.mem_of_getElem? hy)

theorem map1 {α β : Type} (f : α → β) (a : α) : (#[a] : Array α).map f = #[f a] := by simp
theorem map2 {α β : Type} (f : α → β) (a b : α) : (#[a, b] : Array α).map f = #[f a, f b] := by simp
theorem map3 {α β : Type} (f : α → β) (a b c : α) : (#[a, b, c] : Array α).map f = #[f a, f b, f c] := by simp
theorem run_execOp_builtin {o : Oper} {c : Call} {b : Builtin} {ev : Operand → Value} {s : Sem Next} (hop : o.op = .call c) (hc : c.callee = .builtin b) (h : ∀ consts, builtin b c.argTypes o.type consts (c.args.map ev) = s) :
    (execOp ev o).run P G.w = s.run P G.w := by
  simp only [execOp, hop, resolve, hc, Sem.run_bind, Sem.run_pure, Result.andThen_ok, invoke, h]

theorem astep0_sound {R : Type} {cx : Cx} {fl : Nat} {o : Oper} {ρ : Operand → AV} {ev : Operand → Value} {nid : Nat} {K : AV → Heap → List Nat → List Nat → Option R} {r : R} (h : astep0 cx fl o ρ nid G.H K = some r) (hP : cx.P = P) (hS : StRel G)
    (hρ : ∀ x ∈ o.op.operands.toList, VRel G (ρ x) (ev x)) (hA : Fresh G nid) :
    (∃ v H' rd wr, K v H' rd wr = some r ∧ OpOk P G (execOp ev o) nid v H') ∨ ∃ c f, o.op = .call c ∧ c.callee = .value f := by
  subst hP
  cases hop : o.op with
  | move x =>
    left
    have hx := hρ x (by simp [hop, Op.operands])
    simp only [astep0, hop] at h
    split at h
    · obtain ⟨q, hq, h⟩ := Option.bind_eq_some_iff.1 h
      exact ⟨_, _, _, _, h, (acc_sound hq hS hx hA).congr (by simp [execOp, hop])⟩
    · exact ⟨_, _, _, _, h, .same hS (nx := .value (ev x)) (by simp [execOp, hop]) (.inl rfl) hx⟩
  | assign x =>
    left
    have hx := hρ x (by simp [hop, Op.operands])
    simp only [astep0, hop] at h
    split at h
    · obtain ⟨q, hq, h⟩ := Option.bind_eq_some_iff.1 h
      exact ⟨_, _, _, _, h, (acc_sound hq hS hx hA).congr (by simp [execOp, hop])⟩
    · exact ⟨_, _, _, _, h, .same hS (nx := .value (ev x)) (by simp [execOp, hop]) (.inl rfl) hx⟩
  | pick c a b =>
    left
    simp only [astep0, hop, Option.bind_eq_some_iff] at h
    obtain ⟨v, hv, h⟩ := h
    obtain ⟨u, hu, hr⟩ := pPick_sound (P := cx.P) (w := G.w) hv (hρ c (by simp [hop, Op.operands])) (hρ a (by simp [hop, Op.operands])) (hρ b (by simp [hop, Op.operands]))
    exact ⟨_, _, _, _, h, .same hS (by simp only [execOp, hop]; exact hu) (.inl rfl) hr⟩
  | nilCheck x =>
    left
    simp only [astep0, hop, Option.bind_eq_some_iff] at h
    obtain ⟨v, hv, h⟩ := h
    obtain ⟨hr, hc⟩ := pNil_sound hv hS (hρ x (by simp [hop, Op.operands]))
    refine ⟨_, _, _, _, h, .same hS (nx := .value (ev x)) ?_ (.inl rfl) hr⟩
    rcases hc with ⟨ad, hc⟩ | ⟨f, fs, cs, hc⟩ <;> simp [execOp, hop, hc]
  | binOp op t x y t2 =>
    left
    simp only [astep0, hop, Option.bind_eq_some_iff] at h
    obtain ⟨v, hv, h⟩ := h
    obtain ⟨u, hu, hr⟩ := pBin_sound (P := cx.P) (w := G.w) (X := x) (Y := y) hv hS (hρ x (by simp [hop, Op.operands])) (hρ y (by simp [hop, Op.operands]))
    exact ⟨_, _, _, _, h, OpOk.congr (.val hS hu hr) (by simp only [execOp, hop])⟩
  | unOp op t x =>
    left
    simp only [astep0, hop, Option.bind_eq_some_iff] at h
    obtain ⟨v, hv, h⟩ := h
    obtain ⟨u, hu, hr⟩ := pUn_sound (P := cx.P) (w := G.w) hv (hρ x (by simp [hop, Op.operands]))
    exact ⟨_, _, _, _, h, OpOk.congr (.val hS hu hr) (by simp only [execOp, hop])⟩
  | convert s d x =>
    left
    simp only [astep0, hop, Option.bind_eq_some_iff] at h
    obtain ⟨v, hv, h⟩ := h
    obtain ⟨u, hu, hr⟩ := pConv_sound (P := cx.P) (w := G.w) hv (hρ x (by simp [hop, Op.operands]))
    exact ⟨_, _, _, _, h, OpOk.congr (.val hS hu hr) (by simp only [execOp, hop])⟩
  | fieldAddr s x f =>
    left
    simp only [astep0, hop, Option.bind_eq_some_iff] at h
    obtain ⟨v, hv, h⟩ := h
    obtain ⟨u, hu, hr⟩ := pFieldAddr_sound (P := cx.P) (w := G.w) hv hS (hρ x (by simp [hop, Op.operands]))
    exact ⟨_, _, _, _, h, OpOk.congr (.val hS hu hr) (by simp only [execOp, hop])⟩
  | field t x f =>
    left
    simp only [astep0, hop, Option.bind_eq_some_iff] at h
    obtain ⟨v, hv, h⟩ := h
    obtain ⟨u, hu, hr⟩ := pField_sound (P := cx.P) (w := G.w) hv (hρ x (by simp [hop, Op.operands]))
    exact ⟨_, _, _, _, h, OpOk.congr (.val hS hu hr) (by simp only [execOp, hop])⟩
  | indexAddr t x i =>
    left
    simp only [astep0, hop, Option.bind_eq_some_iff] at h
    obtain ⟨v, hv, h⟩ := h
    obtain ⟨u, hu, hr⟩ := pIndexAddr_sound (P := cx.P) (w := G.w) hv hS (hρ x (by simp [hop, Op.operands])) (hρ i (by simp [hop, Op.operands]))
    exact ⟨_, _, _, _, h, OpOk.congr (.val hS hu hr) (by simp only [execOp, hop])⟩
  | index t x i =>
    left
    simp only [astep0, hop, Option.bind_eq_some_iff] at h
    obtain ⟨v, hv, h⟩ := h
    obtain ⟨u, hu, hr⟩ := pIndex_sound (P := cx.P) (w := G.w) hv (hρ x (by simp [hop, Op.operands])) (hρ i (by simp [hop, Op.operands]))
    exact ⟨_, _, _, _, h, OpOk.congr (.val hS hu hr) (by simp only [execOp, hop])⟩
  | slice t x lo hi mx =>
    left
    simp only [astep0, hop, Option.bind_eq_some_iff] at h
    obtain ⟨v, hv, h⟩ := h
    obtain ⟨u, hu, hr⟩ := pSlice_sound (P := cx.P) (w := G.w) hv (hρ x (by simp [hop, Op.operands])) (orel_map fun y hy => hρ y (by simp [hop, Op.operands] at hy ⊢; simp [hy])) (orel_map fun y hy => hρ y (by simp [hop, Op.operands] at hy ⊢; simp [hy]))
      (orel_map fun y hy => hρ y (by simp [hop, Op.operands] at hy ⊢; simp [hy]))
    exact ⟨_, _, _, _, h, OpOk.congr (.val hS hu hr) (by simp only [execOp, hop])⟩
  | extract x i =>
    left
    simp only [astep0, hop, Option.bind_eq_some_iff] at h
    obtain ⟨v, hv, h⟩ := h
    obtain ⟨u, hu, hr⟩ := pExtract_sound (P := cx.P) (w := G.w) hv (hρ x (by simp [hop, Op.operands]))
    exact ⟨_, _, _, _, h, OpOk.congr (.val hS hu hr) (by simp only [execOp, hop])⟩
  | makeFunc fn first cap =>
    left
    cases fn with
    | func f =>
      simp only [astep0, hop] at h
      refine ⟨_, _, _, _, h, .same hS (nx := .value (.func (.func f) (first.map ev) (cap.map ev))) (by simp [execOp, hop, Instr.makeFunc]) (.inl rfl) ?_⟩
      have h1 := rel_arr (G := G) (ρ := ρ) (ev := ev) (xs := first) (fun y hy => hρ y (by simp [hop, Op.operands] at hy ⊢; simp [hy]))
      have h2 := rel_arr (G := G) (ρ := ρ) (ev := ev) (xs := cap) (fun y hy => hρ y (by simp [hop, Op.operands] at hy ⊢; simp [hy]))
      exact .fn _ _ _ _ _ h1.1 h2.1 h1.2 h2.2
    | _ => simp [astep0, hop] at h
  | build t parts =>
    left
    simp only [astep0, hop, Option.bind_eq_some_iff] at h
    obtain ⟨v, hv, h⟩ := h
    obtain ⟨u, hu, hr⟩ := pBuild_sound (P := cx.P) (w := G.w) (ev := ev) hv (fun q hq => hρ q.2 (by simp only [hop, Op.operands]; exact List.mem_map.2 ⟨q, hq, rfl⟩))
    exact ⟨_, _, _, _, h, OpOk.congr (.val hS hu hr) (by simp only [execOp, hop])⟩
  | buildSlice t len parts =>
    left
    simp only [astep0, hop, Option.bind_eq_some_iff] at h
    obtain ⟨⟨sz, es⟩, hq, h⟩ := h
    exact ⟨_, _, _, _, h, OpOk.congr (lit_sound (ev := ev) hq hS (fun q hq => hρ q.2 (by simp only [hop, Op.operands]; exact List.mem_map.2 ⟨q, hq, rfl⟩)) hA) (by simp only [execOp, hop])⟩
  | box t x =>
    left
    simp only [astep0, hop] at h
    split at h
    · rename_i ho
      exact ⟨_, _, _, _, h, OpOk.congr (box_sound (e := t) hS (hρ x (by simp [hop, Op.operands])) ho hA) (by simp only [execOp, hop])⟩
    · cases h
  | alloc t =>
    left
    simp only [astep0, hop, Option.bind_eq_some_iff] at h
    obtain ⟨z, hz, h⟩ := h
    have := alloc_sound (nid := nid) hS hz hA
    split at h
    · exact ⟨_, _, _, _, h, OpOk.congr this.1 (by simp only [execOp, hop])⟩
    · obtain ⟨cs, hcs, h⟩ := Option.bind_eq_some_iff.1 h
      exact ⟨_, _, _, _, h, OpOk.congr (this.2 cs hcs) (by simp only [execOp, hop])⟩
  | makeSlice t l c =>
    left
    simp only [astep0, hop, Option.bind_eq_some_iff] at h
    obtain ⟨⟨sz, es⟩, hq, h⟩ := h
    have := make_sound hq hS (hρ l (by simp [hop, Op.operands])) (hρ c (by simp [hop, Op.operands])) hA
    split at h
    · exact ⟨_, _, _, _, h, OpOk.congr this.1 (by simp only [execOp, hop])⟩
    · exact ⟨_, _, _, _, h, OpOk.congr this.2 (by simp only [execOp, hop])⟩
  | makeMap t res =>
    left
    cases res with
    | some _ => simp [astep0, hop] at h
    | none =>
      simp only [astep0, hop] at h
      exact ⟨_, _, _, _, h, OpOk.congr (makeMap_sound (t := t) hS hA) (by simp only [execOp, hop, Option.map_none])⟩
  | load t a =>
    left
    simp only [astep0, hop, Option.bind_eq_some_iff] at h
    obtain ⟨v, hv, h⟩ := h
    obtain ⟨u, hu, hr⟩ := pLoad_sound (P := cx.P) hv hS (hρ a (by simp [hop, Op.operands]))
    exact ⟨_, _, _, _, h, OpOk.congr (.val hS hu hr) (by simp only [execOp, hop])⟩
  | store t a x =>
    left
    simp only [astep0, hop, Option.bind_eq_some_iff] at h
    obtain ⟨H', hv, h⟩ := h
    exact ⟨_, _, _, _, h, OpOk.congr (pStore_sound hv hS (hρ a (by simp [hop, Op.operands])) (hρ x (by simp [hop, Op.operands]))) (by simp only [execOp, hop])⟩
  | lookup t m k ok =>
    left
    simp only [astep0, hop, Option.bind_eq_some_iff] at h
    obtain ⟨v, hv, h⟩ := h
    obtain ⟨u, hu, hr⟩ := pLookup_sound (P := cx.P) hv hS (hρ m (by simp [hop, Op.operands])) (hρ k (by simp [hop, Op.operands]))
    exact ⟨_, _, _, _, h, OpOk.congr (.val hS hu hr) (by simp only [execOp, hop])⟩
  | mapUpdate t m k x =>
    left
    simp only [astep0, hop, Option.bind_eq_some_iff] at h
    obtain ⟨H', hv, h⟩ := h
    exact ⟨_, _, _, _, h, OpOk.congr (pMapUpdate_sound hv hS (hρ m (by simp [hop, Op.operands])) (hρ k (by simp [hop, Op.operands])) (hρ x (by simp [hop, Op.operands]))) (by simp only [execOp, hop])⟩
  | insert t m k x =>
    left
    simp only [astep0, hop, Option.bind_eq_some_iff] at h
    obtain ⟨H', hv, h⟩ := h
    exact ⟨_, _, _, _, h, OpOk.congr (pMapUpdate_sound hv hS (hρ m (by simp [hop, Op.operands])) (hρ k (by simp [hop, Op.operands])) (hρ x (by simp [hop, Op.operands]))) (by simp only [execOp, hop])⟩
  | call c =>
    cases hc : c.callee with
    | value f => right; exact ⟨c, f, rfl, hc⟩
    | invoke a b => simp [astep0, hop, hc] at h
    | builtin b =>
      left
      have hmem : ∀ x ∈ c.args.toList, VRel G (ρ x) (ev x) := fun x hx => hρ x (by simp [hop, Op.operands, Call.operands] at hx ⊢; simp [hx])
      cases b <;> simp only [astep0, hop, hc] at h <;> try (cases h; done)
      case len =>
        split at h
        · rename_i a t ha ht
          obtain ⟨v, hv, h⟩ := Option.bind_eq_some_iff.1 h
          obtain ⟨u, hu, hr⟩ := pLen_sound (P := cx.P) (ty := o.type) hv hS (hmem a (by simp [ha]))
          refine ⟨_, _, _, _, h, OpOk.congr (.val hS hu hr) ?_⟩
          exact run_execOp_builtin hop hc fun consts => by rw [arr1 ha, arr1 ht, map1]; rfl
        · cases h
      case append =>
        split at h
        · rename_i a b t u ha ht
          obtain ⟨q, hq, h⟩ := Option.bind_eq_some_iff.1 h
          refine ⟨_, _, _, _, h, OpOk.congr (append_sound (ty := o.type) hq hS (hmem a (by simp [ha])) (hmem b (by simp [ha])) hA) ?_⟩
          exact run_execOp_builtin hop hc fun consts => by rw [arr2 ha, arr2 ht, map2]; rfl
        · cases h
      case copy =>
        split at h
        · rename_i a b t ts ha ht
          obtain ⟨q, hq, h⟩ := Option.bind_eq_some_iff.1 h
          have ht' : c.argTypes = (t :: ts).toArray := by rw [← ht]
          refine ⟨_, _, _, _, h, OpOk.congr (copy_sound (ty := o.type) (ts := ts) hq hS (hmem a (by simp [ha])) (hmem b (by simp [ha]))) ?_⟩
          exact run_execOp_builtin hop hc fun consts => by rw [arr2 ha, ht', map2]; rfl
        · cases h
      case min =>
        split at h
        · rename_i a b ha
          obtain ⟨v, hv, h⟩ := Option.bind_eq_some_iff.1 h
          obtain ⟨u, hu, hr⟩ := min2_sound (P := cx.P) (w := G.w) hv (hmem a (by simp [ha])) (hmem b (by simp [ha]))
          refine ⟨_, _, _, _, h, .same hS (nx := .value u) ?_ (.inl rfl) hr⟩
          refine (run_execOp_builtin (s := do pure (.value (← Builtin.min_ c.argTypes o.type #[ev a, ev b]))) hop hc fun consts => by rw [arr2 ha, map2]; rfl).trans ?_
          simp [Builtin.min_, hu]
        · rename_i a b d ha
          obtain ⟨v, hv, h⟩ := Option.bind_eq_some_iff.1 h
          obtain ⟨v', hv', h⟩ := Option.bind_eq_some_iff.1 h
          obtain ⟨u, hu, hr⟩ := min2_sound (P := cx.P) (w := G.w) hv (hmem a (by simp [ha])) (hmem b (by simp [ha]))
          obtain ⟨u', hu', hr'⟩ := min2_sound (P := cx.P) (w := G.w) hv' hr (hmem d (by simp [ha]))
          refine ⟨_, _, _, _, h, .same hS (nx := .value u') ?_ (.inl rfl) hr'⟩
          refine (run_execOp_builtin (s := do pure (.value (← Builtin.min_ c.argTypes o.type #[ev a, ev b, ev d]))) hop hc fun consts => by rw [arr3 ha, map3]; rfl).trans ?_
          simp [Builtin.min_, hu, hu']
        · cases h
      case max =>
        split at h
        · rename_i a b ha
          obtain ⟨v, hv, h⟩ := Option.bind_eq_some_iff.1 h
          obtain ⟨u, hu, hr⟩ := max2_sound (P := cx.P) (w := G.w) hv (hmem a (by simp [ha])) (hmem b (by simp [ha]))
          refine ⟨_, _, _, _, h, .same hS (nx := .value u) ?_ (.inl rfl) hr⟩
          refine (run_execOp_builtin (s := do pure (.value (← Builtin.max_ c.argTypes o.type #[ev a, ev b]))) hop hc fun consts => by rw [arr2 ha, map2]; rfl).trans ?_
          simp [Builtin.max_, hu]
        · rename_i a b d ha
          obtain ⟨v, hv, h⟩ := Option.bind_eq_some_iff.1 h
          obtain ⟨v', hv', h⟩ := Option.bind_eq_some_iff.1 h
          obtain ⟨u, hu, hr⟩ := max2_sound (P := cx.P) (w := G.w) hv (hmem a (by simp [ha])) (hmem b (by simp [ha]))
          obtain ⟨u', hu', hr'⟩ := max2_sound (P := cx.P) (w := G.w) hv' hr (hmem d (by simp [ha]))
          refine ⟨_, _, _, _, h, .same hS (nx := .value u') ?_ (.inl rfl) hr'⟩
          refine (run_execOp_builtin (s := do pure (.value (← Builtin.max_ c.argTypes o.type #[ev a, ev b, ev d]))) hop hc fun consts => by rw [arr3 ha, map3]; rfl).trans ?_
          simp [Builtin.max_, hu, hu']
        · cases h
  | _ => simp [astep0, hop] at h
end ops
end Go.Am
