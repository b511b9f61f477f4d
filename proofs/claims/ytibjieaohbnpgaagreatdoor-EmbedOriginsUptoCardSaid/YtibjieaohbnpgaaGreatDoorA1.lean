/- The evaluator AE, its lowering, and what its values have to do with the model. -/
import GoSem.Dispatch
import Derived.Calls
import Derived.Laws.Sem
import Derived.Laws.Strings
import Derived.Laws.IdiomCopy
set_option linter.all false
set_option linter.unusedSimpArgs false
set_option linter.unusedVariables false
set_option linter.unnecessarySimpa false
set_option linter.deprecated false
namespace Go.AE
inductive AV where
 | bad
 | bool (b : Bool)
 | int (k : IntKind) (n : Int)
 | str (s : List UInt8)
 | nilptr
 | ptr (b o v : Nat)
 | elt (cells : List AV) (o : Nat)
 | nilsl
 | lst (cells : List AV) (n sz : Nat) (ex : Bool)
 | sl (b o n sz v : Nat) (cap : Option Nat)
 | nilmap
 | map (b : Nat)
 | func (f : Nat) (first captured : List AV)
 | nilFunc
 | iface (t : Nat) (v : AV)
 | nilIface
 | agg (cells : List AV)
 | tuple (vs : List AV)
 | yld (b : Nat)
 deriving Inhabited, Repr
abbrev undefA : AV := .tuple []
inductive Opd where
 | t (n : Nat)
 | c (v : AV)
 | f (id : Nat)
 deriving Inhabited, Repr
inductive ETy where
 | b | i | s | p | sl | mp | fn
 | ifc (nils : Bool) (tys : List (Nat × ETy))
 | st (fs : List (Nat × Nat × Bool × ETy))
 deriving Inhabited, Repr
inductive LConv where
 | int (k : IntKind)
 | same
 | ofInt
 | toBytes (tag : Nat)
 | ofBytes
 | ofRunes
 | toRunes (tag : Nat)
 | toUns
 | ofUns (sz : Nat)
 deriving Inhabited, Repr
inductive LBuiltin where
 | lenStr | lenSl | lenArr (n : Nat) | lenMap
 | capSl | capArr (n : Nat)
 | append (sz bytes tag : Nat) (zero : List AV)
 | copy (sz : Nat)
 | clearSl (sz : Nat) (zero : List AV)
 | max | min
 | sliceData
 | string
 deriving Inhabited, Repr
inductive LCallee where
 | builtin (b : LBuiltin)
 | fn (id : Nat)
 | val (x : Opd)
 | invoke (x : Opd) (rows : List (Nat × Nat))
 deriving Inhabited, Repr
inductive LOp where
 | mv (x : Opd)
 | pick (c a b : Opd)
 | alloc (zero : List AV) (tag : Nat)
 | box (tag : Nat) (x : Opd)
 | build (zero : List AV) (parts : List (Nat × Nat × Opd))
 | lit (zero : List AV) (n sz : Nat) (parts : List (Nat × Nat × Opd))
 | load (sz : Nat) (ag : Bool) (x : Opd)
 | store (sz : Nat) (a x : Opd)
 | nilChk (x : Opd)
 | bin (op : BinOp) (x y : Opd)
 | eq (neg : Bool) (t : ETy) (x y : Opd)
 | un (op : UnOp) (x : Opd)
 | conv (k : LConv) (x : Opd)
 | mkIface (tag : Nat) (x : Opd)
 | mkFunc (id : Nat) (first captured : List Opd)
 | mkMap
 | mkSlice (zero : List AV) (sz bytes tag : Nat) (n c : Opd)
 | slStr (x : Opd) (lo hi : Option Opd)
 | slSl (sz : Nat) (x : Opd) (lo hi mx : Option Opd)
 | slArr (len sz : Nat) (x : Opd) (lo hi mx : Option Opd)
 | fieldAddr (off : Nat) (x : Opd)
 | field (off sz : Nat) (ag : Bool) (x : Opd)
 | idxAddr (sz : Nat) (x i : Opd)
 | idxArrAddr (len sz : Nat) (x i : Opd)
 | idxStr (x i : Opd)
 | idxArr (len sz : Nat) (ag : Bool) (x i : Opd)
 | lookup (k : ETy) (zero : AV) (ok : Bool) (x i : Opd)
 | mapUpd (k : ETy) (m i x : Opd)
 | rangeStr (x : Opd)
 | nextStr (x : Opd)
 | rangeMap (x : Opd)
 | nextMap (x : Opd)
 | extract (i : Nat) (x : Opd)
 | call (c : LCallee) (args : List Opd)
 | fail
 deriving Inhabited, Repr
structure LOper where
 d : Option Nat
 op : LOp
 guard : Option (Nat × Bool) := none
 aft : List Nat := []
 deriving Inhabited, Repr
inductive LCode where
 | skip
 | reg (draw : Bool) (ops : List LOper)
 | seq (a b : LCode)
 | cond (c : Opd) (a b : LCode)
 | block (id : Nat) (body : LCode)
 | loop (body : LCode)
 | exit (id : Nat)
 | ret
 | fail
 | rangeFunc (f : Opd) (ps : List Nat) (assign body : LCode)
 deriving Inhabited, Repr
inductive AExit where
 | normal
 | exit (id : Nat)
 | ret
 deriving Repr, DecidableEq, Inhabited
inductive ABlk where
 | cells (cs : List AV) (tag wv st : Nat)
 | map (es : List (AV × AV))
 | iter (s : List UInt8) (pos : Nat)
 | miter (m : Nat)
 | loop (st : Nat) (pend : Option AExit) (T : List AV) (ps : List Nat) (assign body : LCode)
 deriving Inhabited, Repr
abbrev AHeap := List ABlk
abbrev Tmps := List AV
inductive LRes where
 | t (n : Nat)
 | cell (a sz : Nat) (ag : Bool)
 deriving Inhabited, Repr
inductive LExt where
 | indexByteString | countString | indexString | makeNoZero (tag : Nat) | same | overlaps
 | nop | mark | load (k : IntKind) | store | cas (k : IntKind) | add (k : IntKind)
 deriving Inhabited, Repr
inductive LFunc where
 | code (np nt : Nat) (results : List LRes) (body : LCode)
 | ext (e : LExt)
 deriving Inhabited, Repr
mutual
def AV.locFree : AV → Bool
 | .ptr .. | .sl .. | .map _ | .yld _ => false
 | .elt cs _ => locFreeL cs
 | .lst cs _ _ _ => locFreeL cs
 | .func _ a b => locFreeL a && locFreeL b
 | .iface _ v => v.locFree
 | .agg cs | .tuple cs => locFreeL cs
 | _ => true
def locFreeL : List AV → Bool
 | [] => true
 | v :: l => v.locFree && locFreeL l
end
mutual
/-- every place of the heap, k blocks further -/
def AV.shift (k : Nat) : AV → AV
 | .ptr b o v => .ptr (k + b) o v
 | .sl b o n sz v c => .sl (k + b) o n sz v c
 | .map b => .map (k + b)
 | .yld b => .yld (k + b)
 | .elt cs o => .elt (shiftL k cs) o
 | .lst cs n sz e => .lst (shiftL k cs) n sz e
 | .func f a b => .func f (shiftL k a) (shiftL k b)
 | .iface t v => .iface t (v.shift k)
 | .agg cs => .agg (shiftL k cs)
 | .tuple cs => .tuple (shiftL k cs)
 | v => v
def shiftL (k : Nat) : List AV → List AV
 | [] => []
 | v :: l => v.shift k :: shiftL k l
end
def shiftP (k : Nat) : List (AV × AV) → List (AV × AV)
 | [] => []
 | (a, b) :: l => (a.shift k, b.shift k) :: shiftP k l
def ABlk.shift (k : Nat) : ABlk → ABlk
 | .cells cs t w s => .cells (shiftL k cs) t w s
 | .map es => .map (shiftP k es)
 | .iter s p => .iter s p
 | .miter m => .miter (k + m)
 | .loop st pd T ps as bd => .loop st pd (shiftL k T) ps as bd
def AV.cells : AV → List AV
 | .agg cs => cs
 | .tuple _ => []
 | v => [v]
def AV.one : AV → Bool
 | .agg _ | .tuple _ => false
 | _ => true
mutual
/-- are they the same? -/
def AV.same : AV → AV → Bool
 | .bad, .bad => true
 | .bool a, .bool b => a == b
 | .int k n, .int k' n' => decide (k = k') && decide (n = n')
 | .str s, .str s' => decide (s = s')
 | .nilptr, .nilptr => true
 | .ptr b o v, .ptr b' o' v' => decide (b = b') && decide (o = o') && decide (v = v')
 | .elt cs o, .elt cs' o' => sameL cs cs' && decide (o = o')
 | .nilsl, .nilsl => true
 | .lst cs n sz ex, .lst cs' n' sz' ex' => sameL cs cs' && decide (n = n') && decide (sz = sz') && decide (ex = ex')
 | .sl b o n sz v cap, .sl b' o' n' sz' v' cap' => decide (b = b') && decide (o = o') && decide (n = n') && decide (sz = sz') && decide (v = v') && decide (cap = cap')
 | .nilmap, .nilmap => true
 | .map b, .map b' => decide (b = b')
 | .func f a b, .func f' a' b' => decide (f = f') && sameL a a' && sameL b b'
 | .nilFunc, .nilFunc => true
 | .iface t v, .iface t' v' => decide (t = t') && v.same v'
 | .nilIface, .nilIface => true
 | .agg cs, .agg cs' => sameL cs cs'
 | .tuple cs, .tuple cs' => sameL cs cs'
 | .yld b, .yld b' => decide (b = b')
 | _, _ => false
def sameL : List AV → List AV → Bool
 | [], [] => true
 | v :: l, v' :: l' => v.same v' && sameL l l'
 | _, _ => false
end
def blkSame : Option ABlk → Option ABlk → Bool
 | some (.cells cs t w s), some (.cells cs' t' w' s') => sameL cs cs' && decide (t = t') && decide (w = w') && decide (s = s')
 | _, _ => false
def part (cs : List AV) (o sz : Nat) (ag : Bool) : Option AV :=
 if ag then (if o + sz ≤ cs.length then some (.agg ((cs.drop o).take sz)) else none) else cs[o]?
def putCells {α : Type} : List α → Nat → List α → List α
 | cs, _, [] => cs
 | cs, o, v :: l => putCells (cs.set o v) (o + 1) l
def rowOf (H : AHeap) : AV → Option (List AV)
 | .nilsl => some []
 | .lst cs _ _ _ => some cs
 | .sl b o n sz v _ =>
  match H[b]? with
  | some (.cells cs _ wv st) => if st < 2 ∧ wv ≤ v ∧ v ≤ cs.length ∧ o + n * sz ≤ v then some ((cs.drop o).take (n * sz)) else none
  | _ => none
 | _ => none
mutual
/-- a value without places of the heap: slices become rows that nobody writes any more -/
def freeze (H : AHeap) : Nat → AV → Option AV
 | 0, _ => none
 | k + 1, v =>
  match v with
  | .bad | .ptr .. | .map _ | .yld _ => none
  | .sl _ _ n sz _ cap =>
   match rowOf H v with
   | some cs => match freezeL H k cs with
    | some cs' => some (.lst cs' n sz (cap == some n))
    | none => none
   | none => none
  | .elt cs o => (freezeL H k cs).map (.elt · o)
  | .lst cs n sz e => (freezeL H k cs).map (.lst · n sz e)
  | .func f a b => match freezeL H k a, freezeL H k b with
   | some a', some b' => some (.func f a' b')
   | _, _ => none
  | .iface t v => (freeze H k v).map (.iface t)
  | .agg cs => (freezeL H k cs).map .agg
  | .tuple cs => (freezeL H k cs).map .tuple
  | v => some v
def freezeL (H : AHeap) : Nat → List AV → Option (List AV)
 | _, [] => some []
 | 0, _ => none
 | k + 1, v :: l => match freeze H k v, freezeL H k l with
  | some v', some l' => some (v' :: l')
  | _, _ => none
end
def eqPlain : ETy → AV → AV → Option Bool
 | .b, .bool a, .bool b => some (a == b)
 | .i, .int k a, .int k' b => if k = k' then some (a == b) else none
 | .s, .str a, .str b => some (a == b)
 | .p, .nilptr, .nilptr => some true
 | .p, .nilptr, .ptr .. | .p, .ptr .., .nilptr | .p, .nilptr, .elt .. | .p, .elt .., .nilptr => some false
 | .p, .ptr b o v, .ptr b' o' v' => if b = b' ∧ v = v' ∧ o = o' then some true else none
 | .sl, .nilsl, .nilsl => some true
 | .sl, .nilsl, .sl .. | .sl, .sl .., .nilsl | .sl, .nilsl, .lst .. | .sl, .lst .., .nilsl => some false
 | .mp, .nilmap, .nilmap => some true
 | .mp, .nilmap, .map _ | .mp, .map _, .nilmap => some false
 | .fn, .nilFunc, .nilFunc => some true
 | .fn, .nilFunc, .func .. | .fn, .func .., .nilFunc => some false
 | _, _, _ => none
def eqTag : List (Nat × ETy) → Nat → AV → AV → Option Bool
 | [], _, _, _ => none
 | (t, e) :: l, u, x, y => if t = u then eqPlain e x y else eqTag l u x y
def eqIface (nils : Bool) (tys : List (Nat × ETy)) : AV → AV → Option Bool
 | .nilIface, .nilIface => if nils then some true else none
 | .nilIface, .iface .. | .iface .., .nilIface => some false
 | .iface t x, .iface u y => if t = u then eqTag tys t x y else some false
 | _, _ => none
mutual
def aEq : ETy → AV → AV → Option Bool
 | .st fs, .agg xs, .agg ys => aEqF fs xs ys
 | .st _, _, _ => none
 | .ifc nils tys, u, v => eqIface nils tys u v
 | e, u, v => eqPlain e u v
def aEqF : List (Nat × Nat × Bool × ETy) → List AV → List AV → Option Bool
 | [], _, _ => some true
 | (o, sz, ag, e) :: fs, xs, ys =>
  match part xs o sz ag, part ys o sz ag with
  | some x, some y => match aEq e x y with
   | some true => aEqF fs xs ys
   | r => r
  | _, _ => none
end
def utf8Enc (r : Int) : List UInt8 := (Utf8.encode r).data.toList
def utf8Dec (s : List UInt8) (i : Nat) : Nat × Nat := Utf8.decode ⟨s.toArray⟩ i
def ev (T : Tmps) : Opd → AV
 | .t n => T.getD n undefA
 | .c v => v
 | .f id => .func id [] []
def asI : AV → Option Int
 | .int _ n => some n
 | _ => none
inductive Kd where
 | p
 | r (b : Nat)
 | a (n : Nat)
 | w (b : Nat)
 | c (H H' : AHeap)
 | l
 deriving Inhabited, Repr
abbrev ARes := Option (AV × AHeap × Kd)
def pureV (H : AHeap) (v : Option AV) : ARes := v.map fun v => (v, H, .p)
def readV (H : AHeap) (b : Nat) (v : Option AV) : ARes := v.map fun v => (v, H, .r b)
def kdOf : AV → Kd
 | .sl b _ _ _ _ _ => .r b
 | _ => .p
def loadA (H : AHeap) (sz : Nat) (ag : Bool) : AV → ARes
 | .elt cs o => pureV H (part cs o sz ag)
 | .ptr b o v =>
  match H[b]? with
  | some (.cells cs _ wv st) => if st < 2 ∧ wv ≤ v ∧ v ≤ cs.length ∧ o + sz ≤ v then readV H b (part cs o sz ag) else none
  | _ => none
 | _ => none
def storeCellsA (H : AHeap) (b o v : Nat) (l : List AV) : Option AHeap :=
 match H[b]? with
 | some (.cells cs tag _ st) => if st = 0 ∧ v = cs.length ∧ o + l.length ≤ v then some (H.set b (.cells (putCells cs o l) tag v 0)) else none
 | _ => none
def storeA (H : AHeap) (sz : Nat) (a x : AV) : ARes :=
 match a with
 | .ptr b o v => if x.cells.length = sz ∧ 0 < sz then (storeCellsA H b o v x.cells).map fun H => (undefA, H, .w b) else none
 | _ => none
def newVarA (H : AHeap) (v : AV) (tag : Nat) : ARes := if 0 < v.cells.length then some (.ptr H.length 0 v.cells.length, H ++ [.cells v.cells tag v.cells.length 0], .a H.length) else none
def fillA (T : Tmps) : List AV → List (Nat × Nat × Opd) → Option (List AV)
 | cs, [] => some cs
 | cs, (o, sz, x) :: l =>
  let v := (ev T x).cells
  if v.length = sz ∧ o + sz ≤ cs.length ∧ 0 < sz then fillA T (putCells cs o v) l else none
def repCells : Nat → List AV → List AV
 | 0, _ => []
 | n + 1, z => z ++ repCells n z
def binA (op : BinOp) : AV → AV → Option AV
 | .int k a, .int k' b =>
  match op with
  | .shl => if b < 0 then none else some (.int k (k.wrap (a * 2 ^ (min b.toNat k.bits))))
  | .shr => if b < 0 then none else some (.int k (a.fdiv (2 ^ (min b.toNat k.bits))))
  | op =>
   if k ≠ k' then none else
   match op with
   | .add => some (.int k (k.wrap (a + b)))
   | .sub => some (.int k (k.wrap (a - b)))
   | .mul => some (.int k (k.wrap (a * b)))
   | .quo => if b = 0 then none else some (.int k (k.wrap (a.tdiv b)))
   | .rem => if b = 0 then none else some (.int k (a.tmod b))
   | .and => some (.int k (k.wrap (BitVec.ofInt k.bits a &&& BitVec.ofInt k.bits b).toNat))
   | .or => some (.int k (k.wrap (BitVec.ofInt k.bits a ||| BitVec.ofInt k.bits b).toNat))
   | .xor => some (.int k (k.wrap (BitVec.ofInt k.bits a ^^^ BitVec.ofInt k.bits b).toNat))
   | .andNot => some (.int k (k.wrap (BitVec.ofInt k.bits a &&& ~~~(BitVec.ofInt k.bits b)).toNat))
   | .eql => some (.bool (a == b))
   | .neq => some (.bool (a != b))
   | .lss => some (.bool (decide (a < b)))
   | .leq => some (.bool (decide (a ≤ b)))
   | .gtr => some (.bool (decide (a > b)))
   | .geq => some (.bool (decide (a ≥ b)))
   | _ => none
 | .str a, .str b =>
  match op with
  | .add => if a.length + b.length ≤ 2 ^ 62 then some (.str (a ++ b)) else none
  | .eql => some (.bool (a == b))
  | .neq => some (.bool !(a == b))
  | .lss => some (.bool (Op.bytesLess a b))
  | .leq => some (.bool (Op.bytesLess a b || a == b))
  | .gtr => some (.bool !(Op.bytesLess a b || a == b))
  | .geq => some (.bool !(Op.bytesLess a b))
  | _ => none
 | _, _ => none
def unA (op : UnOp) : AV → Option AV
 | .int k n =>
  match op with
  | .neg => some (.int k (k.wrap (0 - n)))
  | .xor => some (.int k (k.wrap (BitVec.ofInt k.bits (if k.signed then -1 else k.max) ^^^ BitVec.ofInt k.bits n).toNat))
  | _ => none
 | .bool b => match op with
  | .not => some (.bool !b)
  | _ => none
 | _ => none
def bytesOfA : List AV → Option (List UInt8)
 | [] => some []
 | .int .u8 n :: l => (bytesOfA l).map (UInt8.ofNat n.toNat :: ·)
 | _ => none
def intsOfA : List AV → Option (List Int)
 | [] => some []
 | .int .i32 n :: l => (intsOfA l).map (n :: ·)
 | _ => none
def sz1 : AV → Bool
 | .nilsl => true
 | .lst _ _ sz _ => sz == 1
 | .sl _ _ _ sz _ _ => sz == 1
 | _ => false
def convA (H : AHeap) (k : LConv) (x : AV) : ARes :=
 match k, x with
 | .int k, .int _ n => pureV H (some (.int k (k.wrap n)))
 | .same, .str s => pureV H (some (.str s))
 | .ofInt, .int _ n => pureV H (some (.str (utf8Enc n)))
 | .toBytes tag, .str s => let cs := s.map fun b => AV.int .u8 b.toNat
  some (.sl H.length 0 s.length 1 s.length none, H ++ [.cells cs tag s.length 0], .a H.length)
 | .ofBytes, x => match rowOf H x with
  | some cs => if sz1 x then (bytesOfA cs).map fun s => (.str s, H, kdOf x) else none
  | none => none
 | .ofRunes, x => match rowOf H x with
  | some cs => if sz1 x then (intsOfA cs).map fun l => (.str (l.flatMap utf8Enc), H, kdOf x) else none
  | none => none
 | .toUns, .nilptr => pureV H (some .nilptr)
 | .toUns, .ptr b o v => match H[b]? with
  | some (.cells cs _ wv st) => if st < 2 ∧ wv ≤ v ∧ v ≤ cs.length ∧ o < v then readV H b (some (.ptr b o v)) else none
  | _ => none
 | .ofUns sz, .ptr b o v => match H[b]? with
  | some (.cells cs tag wv st) => if st < 2 ∧ wv ≤ v ∧ v ≤ cs.length ∧ o = 0 ∧ tag = 2 ∧ sz ≤ v ∧ 0 < sz then readV H b (some (.ptr b 0 v)) else none
  | _ => none
 | _, _ => none
def loI : Option AV → Option Int
 | some v => asI v
 | none => some 0
def hiI (n : Nat) : Option AV → Option Int
 | some v => asI v
 | none => some n
def bounds (n : Nat) (lo hi : Option AV) : Option (Nat × Nat) :=
 match loI lo, hiI n hi with
 | some l, some h => if 0 ≤ l ∧ l ≤ h ∧ h ≤ n then some (l.toNat, h.toNat) else none
 | _, _ => none
def sliceA (sz : Nat) (x : AV) (lo hi mx : Option AV) : Option AV :=
 match x with
 | .nilsl => match bounds 0 lo hi with
  | some _ => if mx.isNone then some .nilsl else none
  | none => none
 | .lst cs n sz' ex => if sz' = sz then match bounds n lo hi with
   | some (l, h) =>
    if mx.isSome then none else some (.lst ((cs.drop (l * sz)).take ((h - l) * sz)) (h - l) sz (ex && h == n))
   | none => none
  else none
 | .sl b o n sz' v cap => if sz' = sz then match bounds n lo hi with
   | some (l, h) =>
    if mx.isSome then none else some (.sl b (o + l * sz) (h - l) sz v (cap.map (· - l)))
   | none => none
  else none
 | _ => none
def idxAddrA (sz : Nat) (x i : AV) : Option AV :=
 match x, asI i with
 | .lst cs n sz' _, some i => if sz' = sz ∧ 0 ≤ i ∧ i < n ∧ 0 < sz then some (.elt cs (i.toNat * sz)) else none
 | .sl b o n sz' v _, some i => if sz' = sz ∧ 0 ≤ i ∧ i < n then some (.ptr b (o + i.toNat * sz) v) else none
 | _, _ => none
def addA (off : Nat) : AV → Option AV
 | .ptr b o v => some (.ptr b (o + off) v)
 | .elt cs o => some (.elt cs (o + off))
 | _ => none
def findA (k : ETy) (x : AV) : List (AV × AV) → Nat → Option (Option (Nat × AV))
 | [], _ => some none
 | (y, v) :: l, i => match aEq k x y with
  | some true => some (some (i, v))
  | some false => findA k x l (i + 1)
  | none => none
def ETy.plainKey : ETy → Bool
 | .i | .s | .b => true
 | _ => false
def lenA (H : AHeap) (b : LBuiltin) (x : AV) : ARes :=
 let num (n : Nat) : AV := .int .i64 n
 match b, x with
 | .lenStr, .str s => pureV H (some (num s.length))
 | .lenSl, .nilsl => pureV H (some (num 0))
 | .lenSl, .lst _ n _ _ | .lenSl, .sl _ _ n _ _ _ => pureV H (some (num n))
 | .lenArr n, _ => pureV H (some (num n))
 | .lenMap, .nilmap => pureV H (some (num 0))
 | .lenMap, .map b => match H[b]? with
  | some (.map es) => readV H b (some (num es.length))
  | _ => none
 | .capSl, .nilsl => pureV H (some (num 0))
 | .capSl, .sl _ _ _ _ _ (some c) => pureV H (some (num c))
 | .capSl, .lst _ n _ true => pureV H (some (num n))
 | .capArr n, _ => pureV H (some (num n))
 | _, _ => none
def cellsIn (H : AHeap) (sz : Nat) : AV → Option (Nat × List AV)
 | .str s => if sz = 1 then some (s.length, s.map fun b => AV.int .u8 b.toNat) else none
 | .nilsl => some (0, [])
 | .lst cs n sz' _ => if sz' = sz ∧ cs.length = n * sz then some (n, cs) else none
 | .sl b o n sz' v c => if sz' = sz then (rowOf H (.sl b o n sz' v c)).map fun cs => (n, cs) else none
 | _ => none
def quiet : AV → Bool
 | .lst .. | .nilsl | .str _ => true
 | _ => false
def appendA (H : AHeap) (sz bytes tag : Nat) (s x : AV) : ARes :=
 match cellsIn H sz x with
 | none => none
 | some (m, new) =>
  let fresh (old : List AV) (n : Nat) : ARes :=
   if (n + m) * bytes ≤ 2 ^ 40 ∧ 0 < bytes ∧ 0 < sz then
    some (.sl H.length 0 (n + m) sz (old ++ new).length none, H ++ [.cells (old ++ new) tag (old ++ new).length 0], .l)
   else none
  match s with
  | .nilsl => if m = 0 then some (.nilsl, H, .l) else fresh [] 0
  | .lst cs n sz' ex =>
   if sz' ≠ sz ∨ cs.length ≠ n * sz then none
   else if m = 0 then some (s, H, if quiet x then .p else .l)
   else if ex then (fresh cs n).map fun r => (r.1, r.2.1, if quiet x then .a H.length else .l) else none
  | .sl b o n sz' v cap =>
   if sz' ≠ sz then none
   else match H[b]? with
   | some (.cells cs t wv st) =>
    if st = 0 ∧ wv ≤ v ∧ v ≤ cs.length ∧ o + n * sz ≤ v ∧ t = tag then
     if m = 0 then some (s, H, .l)
     else if cap.any (fun c => decide (c < n + m)) then fresh ((cs.drop o).take (n * sz)) n
     else if v = cs.length ∧ o + n * sz = v then
      if (n + m) * bytes ≤ 2 ^ 40 ∧ 0 < bytes ∧ 0 < sz ∧ o = 0 then
       some (.sl b 0 (n + m) sz (cs ++ new).length none, H.set b (.cells (cs ++ new) tag wv 0), .l)
      else none
     else if v = cs.length ∧ (tag = 0 ∨ o = 0) then (fresh ((cs.drop o).take (n * sz)) n).map fun (r, H', k) => (r, H'.set b (.cells cs t wv 2), k)
     else none
    else none
   | _ => none
  | _ => none
def copyA (H : AHeap) (sz : Nat) (d x : AV) : ARes :=
 match cellsIn H sz x, d with
 | some (_, _), .nilsl => some (.int .i64 0, H, .l)
 | some (m, new), .sl b o n sz' v _ =>
  let k := min m n
  if sz' = sz then (storeCellsA H b o v (new.take (k * sz))).map fun H => (.int .i64 k, H, .l) else none
 | _, _ => none
def maxA : AV → AV → Option AV
 | .int k x, .int _ y => some (.int k (if y > x then y else x))
 | _, _ => none
def minA : AV → AV → Option AV
 | .int k x, .int _ y => some (.int k (if y < x then y else x))
 | _, _ => none
def foldA (f : AV → AV → Option AV) : AV → List AV → Option AV
 | x, [] => some x
 | x, y :: l => match f x y with
  | some z => foldA f z l
  | none => none
def builtinA (H : AHeap) (b : LBuiltin) (args : List AV) : ARes :=
  match b, args with
  | .append sz bytes tag _, [s, x] => appendA H sz bytes tag s x
  | .copy sz, [d, x] => copyA H sz d x
  | .clearSl sz zero, [x] => match x with
    | .nilsl => some (.tuple [], H, .l)
    | .sl b o n sz' v _ => if n = 0 then some (.tuple [], H, .l) else if sz' = sz then (storeCellsA H b o v (repCells n zero)).map fun H => (.tuple [], H, .l) else none
    | _ => none
  | .max, x :: l => pureV H (foldA maxA x l)
  | .min, x :: l => pureV H (foldA minA x l)
  | .sliceData, [x] => match x with
    | .nilsl => pureV H (some .nilptr)
    | .sl b o n _ v _ => if 0 < n then pureV H (some (.ptr b o v)) else none
    | _ => none
  | .string, [p, n] => match p, n with
    | .nilptr, .int _ 0 => some (.str [], H, .l)
    | .ptr b o v, .int _ n =>
      if n = 0 then some (.str [], H, .l)
      else if 0 < n ∧ n ≤ 2 ^ 62 then match H[b]? with
        | some (.cells cs tag wv st) =>
          if st < 2 ∧ wv ≤ v ∧ v = cs.length ∧ o + n.toNat ≤ v ∧ tag = 1 ∧ o = 0 then
            (bytesOfA ((cs.drop o).take n.toNat)).map fun s => (.str s, H.set b (.cells cs tag wv 1), .l)
          else none
        | _ => none
      else none
    | _, _ => none
  | b, [x] => lenA H b x
  | _, _ => none
def evo (T : Tmps) : Option Opd → Option AV
 | some x => some (ev T x)
 | none => none
def opA (T : Tmps) (H : AHeap) : LOp → ARes
 | .mv x => pureV H (some (ev T x))
 | .pick c a b => match ev T c with
  | .bool c => pureV H (some (if c then ev T a else ev T b))
  | _ => none
 | .alloc zero tag => if zero.length = 0 then none else some (.ptr H.length 0 zero.length, H ++ [.cells zero tag zero.length 0], .a H.length)
 | .box tag x => newVarA H (ev T x) tag
 | .build zero parts => pureV H ((fillA T zero parts).map .agg)
 | .lit zero n sz parts => pureV H ((fillA T (repCells n zero) parts).map fun cs => .lst cs n sz true)
 | .load sz ag x => loadA H sz ag (ev T x)
 | .store sz a x => storeA H sz (ev T a) (ev T x)
 | .nilChk x => match ev T x with
  | .ptr b o v => pureV H (some (.ptr b o v))
  | .elt cs o => pureV H (some (.elt cs o))
  | .iface t v => pureV H (some (.iface t v))
  | .func f a b => pureV H (some (.func f a b))
  | _ => none
 | .bin op x y => pureV H (binA op (ev T x) (ev T y))
 | .eq neg t x y => pureV H ((aEq t (ev T x) (ev T y)).map fun b => .bool (if neg then !b else b))
 | .un op x => pureV H (unA op (ev T x))
 | .conv k x => convA H k (ev T x)
 | .mkIface tag x => pureV H (some (.iface tag (ev T x)))
 | .mkFunc id first captured => pureV H (some (.func id (first.map (ev T)) (captured.map (ev T))))
 | .mkMap => some (.map H.length, H ++ [.map []], .a H.length)
 | .mkSlice zero sz bytes tag n c => match asI (ev T n), asI (ev T c) with
  | some n, some c =>
   if 0 ≤ n ∧ n ≤ c ∧ c * bytes ≤ 2 ^ 40 ∧ 0 < bytes ∧ 0 < sz then
    some (.sl H.length 0 n.toNat sz (n.toNat * sz) (some c.toNat), H ++ [.cells (repCells n.toNat zero) tag (n.toNat * sz) 0], .a H.length)
   else none
  | _, _ => none
 | .slStr x lo hi => match ev T x with
  | .str s => match bounds s.length (evo T lo) (evo T hi) with
   | some (l, h) => pureV H (some (.str ((s.take h).drop l)))
   | none => none
  | _ => none
 | .slSl sz x lo hi mx => pureV H (sliceA sz (ev T x) (evo T lo) (evo T hi) (evo T mx))
 | .slArr len sz x lo hi mx => match ev T x, bounds len (evo T lo) (evo T hi) with
  | .ptr b o v, some (l, h) =>
   if (evo T mx).isSome then none
   else if (match H[b]? with | some (.cells _ _ wv st) => decide (st < 2 ∧ wv ≤ v ∧ o + len * sz ≤ v) | _ => false) then
    some (.sl b (o + l * sz) (h - l) sz v (some (len - l)), H, .r b)
   else none
  | _, _ => none
 | .fieldAddr off x => pureV H (addA off (ev T x))
 | .field off sz ag x => match ev T x with
  | .agg cs => pureV H (part cs off sz ag)
  | _ => none
 | .idxAddr sz x i => pureV H (idxAddrA sz (ev T x) (ev T i))
 | .idxArrAddr len sz x i => match asI (ev T i) with
  | some i => if 0 ≤ i ∧ i < len then pureV H (addA (i.toNat * sz) (ev T x)) else none
  | none => none
 | .idxStr x i => match ev T x, asI (ev T i) with
  | .str s, some i => if 0 ≤ i then pureV H (s[i.toNat]?.map fun b => .int .u8 b.toNat) else none
  | _, _ => none
 | .idxArr len sz ag x i => match ev T x, asI (ev T i) with
  | .agg cs, some i => if 0 ≤ i ∧ i < len then pureV H (part cs (i.toNat * sz) sz ag) else none
  | _, _ => none
 | .lookup k zero ok x i =>
  let out (r : Option (Nat × AV)) : AV :=
   let v := match r with | some (_, v) => v | none => zero
   if ok then .tuple [v, .bool r.isSome] else v
  match ev T x with
  | .nilmap => pureV H ((findA k (ev T i) [] 0).map out)
  | .map b => match H[b]? with
   | some (.map es) => if k.plainKey then readV H b ((findA k (ev T i) es 0).map out) else none
   | _ => none
  | _ => none
 | .mapUpd k m i x => match ev T m with
  | .map b => match H[b]? with
   | some (.map es) => if k.plainKey then match findA k (ev T i) es 0 with
     | some (some (j, _)) => some (undefA, H.set b (.map (es.set j (ev T i, ev T x))), .l)
     | some none => some (undefA, H.set b (.map (es ++ [(ev T i, ev T x)])), .l)
     | none => none
    else none
   | _ => none
  | _ => none
 | .rangeStr x => match ev T x with
  | .str s => some (.ptr H.length 0 0, H ++ [.iter s 0], .a H.length)
  | _ => none
 | .nextStr x => match ev T x with
  | .ptr b 0 0 => match H[b]? with
   | some (.iter s pos) =>
    if pos < s.length then
     let cw := utf8Dec s pos
     some (.tuple [.bool true, .int .i64 pos, .int .i32 cw.1], H.set b (.iter s (pos + cw.2)), .l)
    else some (.tuple [.bool false], H, .l)
   | _ => none
  | _ => none
 | .rangeMap x => match ev T x with
  | .map m => match H[m]? with
   | some (.map _) => some (.ptr H.length 0 0, H ++ [.miter m], .l)
   | _ => none
  | _ => none
 | .nextMap x => match ev T x with
  | .ptr b 0 0 => match H[b]? with
   | some (.miter m) => match H[m]? with
    | some (.map []) => some (.tuple [.bool false], H, .l)
    | _ => none
   | _ => none
  | _ => none
 | .extract i x => match ev T x with
  | .tuple vs => pureV H vs[i]?
  | _ => none
 | .call .. | .fail => none
abbrev ACall := Bool → Nat → List AV → AHeap → Option (AV × AHeap)
def callA (keep : Nat → Bool) (call : ACall) (f : Nat) (args : List AV) (H : AHeap) : ARes :=
 if locFreeL args then
  match call false f args [] with
  | some (v, Hc) =>
   match (if keep f then none else freeze Hc 1000000000 v) with
   | some v' => some (v', H, .p)
   | none => some (v.shift H.length, H ++ Hc.map (·.shift H.length), .a H.length)
  | none => none
 else (call false f args H).map fun (v, H') => (v, H', .c H H')
def rowOfTag : List (Nat × Nat) → Nat → Option Nat
 | [], _ => none
 | (g, f) :: l, h => if g = h then some f else rowOfTag l h
def operA (keep : Nat → Bool) (call : ACall) (T : Tmps) (H : AHeap) : LOp → ARes
 | .call (.builtin b) args => builtinA H b (args.map (ev T))
 | .call (.fn f) args => callA keep call f (args.map (ev T)) H
 | .call (.val x) args => match ev T x with
  | .func f first captured => callA keep call f (first ++ args.map (ev T) ++ captured) H
  | .yld b => (call true b (args.map (ev T)) H).map fun (v, H') => (v, H', .c H H')
  | _ => none
 | .call (.invoke x rows) args => match ev T x with
  | .iface g v => match rowOfTag rows g with
   | some f => callA keep call f (v :: args.map (ev T)) H
   | none => none
  | _ => none
 | op => opA T H op
def putT (T : Tmps) : Option Nat → AV → Tmps
 | some d, v => T.set d v
 | none, _ => T
def wantedA (T : Tmps) : Option (Nat × Bool) → Option Bool
 | none => some true
 | some (t, want) => match T.getD t undefA with
  | .bool b => some (b == want)
  | .tuple [] => some false
  | _ => none
def opsA (keep : Nat → Bool) (call : ACall) : List LOper → Tmps → AHeap → Option (Tmps × AHeap × List Kd)
 | [], T, H => some (T, H, [])
 | o :: l, T, H =>
  match wantedA T o.guard with
  | some true => match operA keep call T H o.op with
   | some (v, H', k) => (opsA keep call l (putT T o.d v) H').map fun (T', H', ks) => (T', H', k :: ks)
   | none => none
  | some false => (opsA keep call l (putT T o.d undefA) H).map fun (T', H', ks) => (T', H', Kd.p :: ks)
  | none => none
def Opd.tmps : Opd → List Nat
 | .t n => [n]
 | _ => []
def LOp.tmps : LOp → List Nat
 | .mv x | .box _ x | .load _ _ x | .nilChk x | .un _ x | .conv _ x | .mkIface _ x | .fieldAddr _ x | .field _ _ _ x | .rangeStr x | .nextStr x | .rangeMap x | .nextMap x | .extract _ x => x.tmps
 | .pick c a b => c.tmps ++ a.tmps ++ b.tmps
 | .alloc .. | .mkMap | .fail => []
 | .build _ ps | .lit _ _ _ ps => ps.flatMap fun p => p.2.2.tmps
 | .store _ x y | .bin _ x y | .eq _ _ x y | .mkSlice _ _ _ _ x y | .idxAddr _ x y | .idxArrAddr _ _ x y | .idxStr x y | .idxArr _ _ _ x y | .lookup _ _ _ x y => x.tmps ++ y.tmps
 | .mapUpd _ x y z => x.tmps ++ y.tmps ++ z.tmps
 | .mkFunc _ a b => (a ++ b).flatMap Opd.tmps
 | .slStr x l h => x.tmps ++ (l.toList ++ h.toList).flatMap Opd.tmps
 | .slSl _ x l h m | .slArr _ _ x l h m => x.tmps ++ (l.toList ++ h.toList ++ m.toList).flatMap Opd.tmps
 | .call c args => (match c with | .val x | .invoke x _ => x.tmps | _ => []) ++ args.flatMap Opd.tmps
def LOper.tmps (o : LOper) : List Nat := o.op.tmps ++ (o.guard.map (·.1)).toList
def LOper.names (o : LOper) : List Nat := o.tmps ++ o.d.toList
def beforeA (ops : List LOper) : List Nat :=
 ops.foldl (fun acc o => acc ++ [o.aft.foldl (fun s e => s ||| 2 ^ e ||| acc.getD e 0) 0]) []
def kindsApart : Kd → Kd → Bool
 | .l, _ | _, .l | .a _, .a _ | .w _, .a _ | .a _, .w _ | .w _, .w _ => false
 | .c _ _, .p | .p, .c _ _ => true
 | .c H H', .r b | .r b, .c H H' => blkSame H[b]? H'[b]?
 | .c _ _, _ | _, .c _ _ => false
 | .w b, .r c | .r c, .w b => b != c
 | .a n, .r b | .r b, .a n => b < n
 | _, _ => true
def drawOk0 (ops : List LOper) (ks : List Kd) : Bool :=
  let b := beforeA ops
  ops.zipIdx.all fun (o, j) =>
    o.aft.all (· < j) &&
    (List.range j).all fun i =>
      (b.getD j 0).testBit i ||
        (kindsApart (ks.getD i .p) (ks.getD j .p) &&
          match ops[i]? with
          | some p => (p.d.toList.all fun d => !o.names.contains d) && (o.d.toList.all fun d => !p.names.contains d)
          | none => true)
def lateOk (ops : List LOper) (ks : List Kd) (i j : Nat) : Bool := decide (i < j) && match ops[j]? with
 | some o => match o.op, o.guard, o.d with
  | .alloc _ _, none, some d => drawOk0 (ops.set j { o with aft := i :: o.aft }) ks && ops.zipIdx.all fun (p, m) => m == j || ((p.d != some d) && (!p.names.contains d || p.aft.contains j) && (!p.aft.contains j || p.aft.contains i))
  | _, _, _ => false
 | none => false
def drawOk (ops : List LOper) (ks : List Kd) : Bool := drawOk0 ops ks || (List.range ops.length).any fun j => (List.range j).any fun i => lateOk ops ks i j
abbrev ACodeRes := Option (AExit × Tmps × AHeap)
def loopA (body : Tmps → AHeap → ACodeRes) : Nat → Tmps → AHeap → ACodeRes
 | 0, _, _ => none
 | n + 1, T, H => match body T H with
  | some (.normal, T', H') => loopA body n T' H'
  | r => r
def codeA (keep : Nat → Bool) (call : ACall) (n : Nat) : LCode → Tmps → AHeap → ACodeRes
 | .skip, T, H => some (.normal, T, H)
 | .reg draw ops, T, H => match opsA keep call ops T H with
  | some (T', H', ks) => if draw && !drawOk ops ks then none else some (.normal, T', H')
  | none => none
 | .seq a b, T, H => match codeA keep call n a T H with
  | some (.normal, T', H') => codeA keep call n b T' H'
  | r => r
 | .cond c a b, T, H => match ev T c with
  | .bool true => codeA keep call n a T H
  | .bool false => codeA keep call n b T H
  | _ => none
 | .block id c, T, H => match codeA keep call n c T H with
  | some (.exit i, T', H') => if i = id then some (.normal, T', H') else some (.exit i, T', H')
  | r => r
 | .loop c, T, H => loopA (codeA keep call n c) n T H
 | .exit id, T, H => some (.exit id, T, H)
 | .ret, T, H => some (.ret, T, H)
 | .fail, _, _ => none
 | .rangeFunc f ps as bd, T, H => match ev T f with
  | .func g first captured => if keep g = false then none else match call false g (first ++ [.yld H.length] ++ captured) (H ++ [.loop 0 none T ps as bd]) with
   | some (_, H2) => match H2[H.length]? with
    | some (.loop st pd T' ps' as' bd') => if st = 1 then none else some (pd.getD .normal, T, H2.set H.length (.loop 3 pd T' ps' as' bd'))
    | _ => none
   | none => none
  | _ => none
def resA (T : Tmps) (H : AHeap) : List LRes → Option (List AV)
 | [] => some []
 | .t n :: l => (resA T H l).map (T.getD n undefA :: ·)
 | .cell a sz ag :: l => match loadA H sz ag (T.getD a undefA) with
  | some (v, _, _) => (resA T H l).map (v :: ·)
  | none => none
def extA (e : LExt) (args : List AV) (H : AHeap) : Option (AV × AHeap) :=
 match e, args with
 | .same, [x] => some (x, H)
 | .indexByteString, [.str s, .int .u8 c] => some (.int .i64 (match s.findIdx? (· == c.toNat.toUInt8) with | some i => (i : Int) | none => -1), H)
 | .countString, [.str s, .int .u8 c] => some (.int .i64 ((s.filter (· == c.toNat.toUInt8)).length : Nat), H)
 | .indexString, [.str a, .str b] =>
  if b.length < 2 ∨ 63 < b.length ∨ 2 ^ 32 - 15 ≤ a.length then none
  else some (.int .i64 (match (List.range (a.length + 1 - b.length)).find? fun i => (a.drop i).take b.length == b with | some i => i | none => -1), H)
 | .makeNoZero tag, [.int .i64 n] =>
  if 0 ≤ n ∧ n ≤ 2 ^ 40 then some (.sl H.length 0 n.toNat 1 n.toNat none, H ++ [.cells (List.replicate n.toNat .bad) tag n.toNat 0]) else none
 | .overlaps, _ => none
 | .nop, _ => some (.tuple [], H)
 | .mark, [.ptr _ _ _] => some (.tuple [], H)
 | .load k, [.ptr b o v] => match loadA H 1 false (.ptr b o v) with
  | some (.int k' n, _, _) => if k = k' then some (.int k n, H) else none
  | _ => none
 | .store, [.ptr b o v, x] => if x.one then (storeCellsA H b o v [x]).map fun H' => (.tuple [], H') else none
 | .cas k, [.ptr b o v, .int k2 y, .int k3 x] => match loadA H 1 false (.ptr b o v) with
  | some (.int k' n, _, _) => if k = k' ∧ k = k2 ∧ k = k3 then (if n = y then (storeCellsA H b o v [.int k x]).map fun H' => (.bool true, H') else none) else none
  | _ => none
 | .add k, [.ptr b o v, .int k2 y] => match loadA H 1 false (.ptr b o v) with
  | some (.int k' n, _, _) => if k = k' ∧ k = k2 then (storeCellsA H b o v [.int k (k.wrap (n + y))]).map fun H' => (.int k (k.wrap (n + y)), H') else none
  | _ => none
 | _, _ => none
def tupA : List AV → AV
 | [v] => v
 | vs => .tuple vs
def setPs : Tmps → List Nat → List AV → Tmps
 | T, p :: ps, v :: vs => setPs (T.set p v) ps vs
 | T, _, _ => T
def roundA (code : LCode → Tmps → AHeap → ACodeRes) (b : Nat) (args : List AV) (H : AHeap) : Option (AV × AHeap) :=
 match H[b]? with
 | some (.loop _ _ T ps as bd) =>
  if args.length = ps.length then
   match code as (setPs T ps args) H with
   | some (.normal, T1, H1) =>
    match H1[b]? with
    | some (.loop 0 pd T2 ps2 as2 bd2) =>
     match code bd T1 (H1.set b (.loop 1 pd T2 ps2 as2 bd2)) with
     | some (e, _, H3) =>
      match H3[b]? with
      | some (.loop _ _ T4 ps4 as4 bd4) =>
       if e = .normal then some (.bool true, H3.set b (.loop 0 none T4 ps4 as4 bd4)) else some (.bool false, H3.set b (.loop 2 (some e) T4 ps4 as4 bd4))
      | _ => none
     | none => none
    | _ => none
   | _ => none
  else none
 | _ => none
def callsA (lp : Nat → Option LFunc) (keep : Nat → Bool) (hk : ACall → Nat → List AV → AHeap → Option (AV × AHeap)) : Nat → ACall
 | 0, _, _, _, _ => none
 | n + 1, true, b, args, H => roundA (codeA keep (callsA lp keep hk n) n) b args H
 | n + 1, false, f, args, H =>
  match lp f with
  | some (.code np nt results body) =>
   if args.length = np then
    match codeA keep (callsA lp keep hk n) n body (args ++ List.replicate (nt - np) undefA) H with
    | some (.exit _, _, _) => none
    | some (_, T, H') => (resA T H' results).map fun vs => (tupA vs, H')
    | none => none
   else none
  | some (.ext e) => extA e args H
  | none => hk (callsA lp keep hk n) f args H
end Go.AE
namespace Go.AE
structure Ties where
 idOf : FuncId → Option Nat
 tagOf : TypeId → Option Nat
 gl : Nat → Option AV
 ifTys : List TypeId
 rows : String → List (Nat × Nat)
section
variable (P : Program) (τ : Ties)
mutual
def constA : Value → Option AV
 | .bool b => some (.bool b)
 | .int k n => some (.int k n)
 | .string s => some (.str s.data.toList)
 | .pointer none => some .nilptr
 | .slice none 0 0 => some .nilsl
 | .map none => some .nilmap
 | .nilFunc => some .nilFunc
 | .nilIface => some .nilIface
 | .agg ⟨cs⟩ => match constL cs with
  | some l => if l.all AV.one then some (.agg l) else none
  | none => none
 | .tuple ⟨cs⟩ => (constL cs).map .tuple
 | _ => none
def constL : List Value → Option (List AV)
 | [] => some []
 | v :: l => match constA v, constL l with
  | some v', some l' => some (v' :: l')
  | _, _ => none
end
def lowOpd : Operand → Option Opd
 | .tmp t => some (.t t)
 | .const v => (constA v).map .c
 | .global g => (τ.gl g).map .c
 | .func f => (τ.idOf f).map .f
def lowOpds : List Operand → Option (List Opd)
 | [] => some []
 | x :: l => match lowOpd τ x, lowOpds l with
  | some x', some l' => some (x' :: l')
  | _, _ => none
def lowO : Option Operand → Option (Option Opd)
 | none => some none
 | some x => (lowOpd τ x).map some
def sizeA (t : TypeId) : Option Nat := (P.info? t).map (·.size)
def bytesA (t : TypeId) : Option Nat := (P.info? t).map (·.bytes)
def aggA (t : TypeId) : Option Bool := (P.underlying t).map fun | .struct _ | .array _ _ => true | _ => false
def zeroA (t : TypeId) : Option AV := ((P.info? t).bind (·.zero)).bind constA
def tagA (t : TypeId) : Nat := match P.underlying t with
 | some (.int .u8) => 1
 | some (.struct _) => if decide (t < P.types.size) && (P.info? t).any (fun i => i.str == "strings.Builder") then 2 else 0
 | _ => 0
def arrF (sz : Nat) (ag : Bool) (e : ETy) : Nat → Nat → List (Nat × Nat × Bool × ETy)
 | 0, _ => []
 | n + 1, i => (i * sz, sz, ag, e) :: arrF sz ag e n (i + 1)
def etyFields (P : Program) (g : TypeId → Option ETy) : List Field → Option (List (Nat × Nat × Bool × ETy))
 | [] => some []
 | f :: l => if f.name ≠ "_" then
   match sizeA P f.type, aggA P f.type, g f.type, etyFields P g l with
   | some s, some a, some e, some r => some ((f.offset, s, a, e) :: r)
   | _, _, _, _ => none
  else etyFields P g l
def ifcTys (P : Program) (τ : Ties) : List TypeId → List (Nat × ETy)
 | [] => []
 | t :: l => match τ.tagOf t, P.info? t, P.underlying t with
  | some g, some i, some (.int _) => if i.comparable then (g, .i) :: ifcTys P τ l else ifcTys P τ l
  | _, _, _ => ifcTys P τ l
def etyA : Nat → (isConst : Bool) → TypeId → Option ETy
  | 0, _, _ => none
  | d + 1, isConst, t =>
    match P.underlying t with
    | some .bool => some .b
    | some (.int _) => some .i
    | some .string => some .s
    | some (.pointer e) => (sizeA P e).map fun _ => .p
    | some .unsafePointer => some .p
    | some (.slice _) => some .sl
    | some (.map _ _) => some .mp
    | some (.func _ _ _) => some .fn
    | some (.interface _) => some (.ifc isConst (ifcTys P τ τ.ifTys))
    | some (.struct fs) =>
      if P.stoodInHeld t then none else
      (etyFields P (etyA d false) fs.toList).map .st
    | some (.array n e) => match sizeA P e, aggA P e, etyA d false e with
      | some s, some a, some e' => some (.st (arrF s a e' n 0))
      | _, _, _ => none
    | _ => none
def isConstO : Operand → Bool
 | .const _ => true
 | _ => false
def lowParts (place : Nat → Option (Nat × Nat)) : List (Nat × Operand) → Option (List (Nat × Nat × Opd))
 | [] => some []
 | (i, x) :: l => match place i, lowOpd τ x, lowParts place l with
  | some (o, s), some x', some l' => some ((o, s, x') :: l')
  | _, _, _ => none
def lowBuiltin (b : Builtin) (ts : Array TypeId) : Option LBuiltin :=
 match b, (ts[0]?).bind P.underlying with
 | .len, some .string => some .lenStr
 | .len, some (.slice _) => some .lenSl
 | .len, some (.array n _) => some (.lenArr n)
 | .len, some (.pointer a) => match P.underlying a with
  | some (.array n _) => some (.lenArr n)
  | _ => none
 | .len, some (.map _ _) => some .lenMap
 | .cap, some (.slice _) => some .capSl
 | .cap, some (.array n _) => some (.capArr n)
 | .append, some (.slice e) =>
  match (ts[1]?).bind P.underlying with
  | some (.slice _) | some .string => match sizeA P e, bytesA P e, zeroA P e with
   | some s, some b, some z => if z.cells.length = s ∧ 0 < s then some (.append s b (tagA P e) z.cells) else none
   | _, _, _ => none
  | _ => none
 | .copy, some (.slice e) => (sizeA P e).map .copy
 | .clear, some (.slice e) => match sizeA P e, zeroA P e with
  | some s, some z => if 0 < z.cells.length then some (.clearSl s z.cells) else none
  | _, _ => none
 | .max, _ => some .max
 | .min, _ => some .min
 | .unsafeSliceData, some (.slice _) => some .sliceData
 | .unsafeString, some (.pointer e) => if P.underlying e matches some (.int .u8) then some .string else none
 | _, _ => none
def lowConv (src dst : TypeId) : Option LConv :=
 match P.underlying src, P.underlying dst with
 | some _, some (.int k) => some (.int k)
 | some (.int _), some .string => some .ofInt
 | some .string, some .string => some .same
 | some .string, some (.slice e) => match P.underlying e with
  | some (.int .u8) => some (.toBytes (tagA P e))
  | some (.int .i32) => some (.toRunes (tagA P e))
  | _ => none
 | some (.pointer e), some .unsafePointer => match sizeA P e with
  | some s => if s = 0 then none else some .toUns
  | none => none
 | some .unsafePointer, some (.pointer u) => match sizeA P u with
  | some s => if tagA P u = 2 then some (.ofUns s) else none
  | none => none
 | some (.slice e), some .string => match P.underlying e with
  | some (.int .u8) => some .ofBytes
  | some (.int .i32) => some .ofRunes
  | _ => none
 | _, _ => none
def eqGuardOk (t : TypeId) : Bool :=
 match P.underlying t with
 | some (.struct _) | some (.array _ _) => !P.eqGuardType P.depth t
 | _ => true
def lowOp : Op → Option LOp
 | .move x | .assign x => (lowOpd τ x).map .mv
 | .pick c a b => match lowOpd τ c, lowOpd τ a, lowOpd τ b with
  | some c, some a, some b => some (.pick c a b)
  | _, _, _ => none
 | .alloc t => (zeroA P t).map fun z => .alloc z.cells (tagA P t)
 | .box t x => (lowOpd τ x).map (.box (tagA P t))
 | .build t parts => match zeroA P t, P.underlying t with
  | some z, some (.struct fs) =>
   if 0 < z.cells.length ∧ fs.toList.all (fun f => (sizeA P f.type).isSome) then (lowParts τ (fun i => (fs[i]?).bind fun f => (sizeA P f.type).map (f.offset, ·)) parts.toList).map (.build z.cells) else none
  | some z, some (.array _ e) => match sizeA P e with
   | some s => if 0 < z.cells.length then (lowParts τ (fun i => some (i * s, s)) parts.toList).map (.build z.cells) else none
   | none => none
  | _, _ => none
 | .buildSlice t n parts => match P.underlying t with
  | some (.slice e) => match sizeA P e, zeroA P e with
   | some s, some z => if n * s ≤ 2 ^ 24 ∧ 0 < s ∧ z.cells.length = s then (lowParts τ (fun i => some (i * s, s)) parts.toList).map (.lit z.cells n s) else none
   | _, _ => none
  | _ => none
 | .load t x => match sizeA P t, aggA P t, lowOpd τ x with
  | some s, some a, some x => if a = false ∧ s ≠ 1 then none else some (.load s a x)
  | _, _, _ => none
 | .store t a x => match sizeA P t, lowOpd τ a, lowOpd τ x with
  | some s, some a, some x => some (.store s a x)
  | _, _, _ => none
 | .nilCheck x => (lowOpd τ x).map .nilChk
 | .binOp op t x y _ => match lowOpd τ x, lowOpd τ y with
  | some x', some y' => match op, P.underlying t with
   | _, some (.int _) | _, some .string => some (.bin op x' y')
   | .eql, _ => if eqGuardOk P t then (etyA P τ 50 (isConstO x || isConstO y) t).map fun e => .eq false e x' y' else none
   | .neq, _ => if eqGuardOk P t then (etyA P τ 50 (isConstO x || isConstO y) t).map fun e => .eq true e x' y' else none
   | _, _ => none
  | _, _ => none
 | .unOp op _ x => (lowOpd τ x).map (.un op)
 | .convert s d x => match lowConv P s d, lowOpd τ x with
  | some k, some x => some (.conv k x)
  | _, _ => none
 | .makeInterface t x => match P.underlying t, τ.tagOf t, lowOpd τ x with
  | some (.interface _), _, _ => none
  | some _, some g, some x => some (.mkIface g x)
  | _, _, _ => none
 | .makeFunc (.func f) first captured => match τ.idOf f, lowOpds τ first.toList, lowOpds τ captured.toList with
  | some i, some a, some b => some (.mkFunc i a b)
  | _, _, _ => none
 | .makeMap _ none => some .mkMap
 | .makeSlice t n c => match P.underlying t with
  | some (.slice e) => match sizeA P e, bytesA P e, zeroA P e, lowOpd τ n, lowOpd τ c with
   | some s, some b, some z, some n, some c => if z.cells.length = s then some (.mkSlice z.cells s b (tagA P e) n c) else none
   | _, _, _, _, _ => none
  | _ => none
 | .slice t x lo hi mx => match P.underlying t, lowOpd τ x, lowO τ lo, lowO τ hi, lowO τ mx with
  | some .string, some x, some lo, some hi, some none => some (.slStr x lo hi)
  | some (.slice e), some x, some lo, some hi, some mx => (sizeA P e).map fun s => .slSl s x lo hi mx
  | some (.array n e), some x, some lo, some hi, some mx => (sizeA P e).map fun s => .slArr n s x lo hi mx
  | _, _, _, _, _ => none
 | .fieldAddr t x i => match P.underlying t, lowOpd τ x with
  | some (.struct fs), some x => match fs[i]? with
   | some f => match sizeA P f.type with
    | some s => if s = 0 then none else some (.fieldAddr f.offset x)
    | none => none
   | none => none
  | _, _ => none
 | .field t x i => match P.underlying t, lowOpd τ x with
  | some (.struct fs), some x => match fs[i]? with
   | some f => match sizeA P f.type, aggA P f.type with
    | some s, some a => some (.field f.offset s a x)
    | _, _ => none
   | none => none
  | _, _ => none
 | .indexAddr t x i => match P.underlying t, lowOpd τ x, lowOpd τ i with
  | some (.slice e), some x, some i => (sizeA P e).map fun s => .idxAddr s x i
  | some (.array n e), some x, some i => (sizeA P e).map fun s => .idxArrAddr n s x i
  | _, _, _ => none
 | .index t x i => match P.underlying t, lowOpd τ x, lowOpd τ i with
  | some .string, some x, some i => some (.idxStr x i)
  | some (.array n e), some x, some i => match sizeA P e, aggA P e with
   | some s, some a => some (.idxArr n s a x i)
   | _, _ => none
  | _, _, _ => none
 | .lookup t x i ok => match P.underlying t, lowOpd τ x, lowOpd τ i with
  | some (.map k e), some x, some i => match etyA P τ 50 false k, zeroA P e with
   | some k, some z => if k.plainKey then some (.lookup k z ok x i) else none
   | _, _ => none
  | _, _, _ => none
 | .mapUpdate t m i x | .insert t m i x => match P.underlying t, lowOpd τ m, lowOpd τ i, lowOpd τ x with
  | some (.map k _), some m, some i, some x => (etyA P τ 50 false k).map fun k => .mapUpd k m i x
  | _, _, _, _ => none
 | .range t x => match P.underlying t, lowOpd τ x with
  | some .string, some x => some (.rangeStr x)
  | some (.map _ _), some x => some (.rangeMap x)
  | _, _ => none
 | .next x true => (lowOpd τ x).map .nextStr
 | .next x false => (lowOpd τ x).map .nextMap
 | .extract x i => (lowOpd τ x).map (.extract i)
 | .call c => match lowOpds τ c.args.toList with
  | some args => match c.callee with
   | .builtin b => (lowBuiltin P b c.argTypes).map fun b => .call (.builtin b) args
   | .value (.func f) => (τ.idOf f).map fun i => .call (.fn i) args
   | .value x => (lowOpd τ x).map fun x => .call (.val x) args
   | .invoke x name => (lowOpd τ x).map fun x => .call (.invoke x (τ.rows name)) args
  | none => none
 | _ => none
def lowGuard (ops : Array Oper) : Option (Nat × Bool) → Option (Option (Nat × Bool))
 | none => some none
 | some (j, w) => ((ops[j]?).bind (·.dst)).map fun d => some (d, w)
def lowOps (draw : Bool) (ops : Array Oper) : List Oper → Option (List LOper)
 | [] => some []
 | o :: l => match lowGuard ops o.guard, lowOps draw ops l with
  | some g, some l' =>
   some ({ d := o.dst, op := (lowOp P τ o.op).getD .fail, guard := g, aft := if draw then (o.after.toList.filter (Region.binds .any)).map (·.on) else [] } :: l')
  | _, _ => none
def lowCode : Code → Option LCode
 | .skip => some .skip
 | .region _ ops draw => match lowOps P τ draw ops ops.toList with
  | some l => some (.reg draw l)
  | none => some .fail
 | .seq a b => match lowCode a, lowCode b with
  | some a, some b => some (.seq a b)
  | _, _ => none
 | .cond c a b => match lowOpd τ c, lowCode a, lowCode b with
  | some c, some a, some b => some (.cond c a b)
  | _, _, _ => none
 | .block id c => (lowCode c).map (.block id)
 | .loop c => (lowCode c).map .loop
 | .exit id => some (.exit id)
 | .ret => some .ret
 | .rangeFunc f ps x y => match lowOpd τ f, lowCode x, lowCode y with
  | some f, some x, some y => some (.rangeFunc f ps.toList x y)
  | _, _, _ => none
 | .scope c => lowCode c
 | .label _ => some .skip
 | _ => some .fail
def lowRes : List ResultVar → Option (List LRes)
 | [] => some []
 | .tmp t :: l => (lowRes l).map (.t t :: ·)
 | .cell a t :: l => match sizeA P t, aggA P t, lowRes l with
  | some s, some g, some l' => if g = false ∧ s ≠ 1 then none else some (.cell a s g :: l')
  | _, _, _ => none
def lowExt (fn : Func) : Option LExt :=
 match fn.name with
 | "internal/abi.NoEscape" => some .same
 | "internal/bytealg.IndexByteString" => some .indexByteString
 | "internal/bytealg.CountString" => some .countString
 | "internal/bytealg.IndexString" => some .indexString
 | "internal/bytealg.MakeNoZero" => some (.makeNoZero 1)
 | "sync/atomic.LoadUint32" => some (.load .u32)
 | "sync/atomic.StoreUint32" => some .store
 | "sync/atomic.CompareAndSwapInt32" => some (.cas .i32)
 | "sync/atomic.AddInt32" => some (.add .i32)
 | "internal/race.Disable" | "internal/race.Enable" => some .nop
 | "internal/race.Acquire" | "internal/race.ReleaseMerge" => some .mark
 | _ => none
def lowFunc (fn : Func) : Option LFunc :=
 match fn.body with
 | some c => match lowCode P τ c, lowRes P fn.results.toList with
  | some c, some r => some (.code (fn.params.size + fn.nfree) fn.ntmps r c)
  | _, _ => none
 | none => (lowExt fn).map .ext
end
theorem tagA_1 {P : Program} {t : TypeId} : tagA P t = 1 → P.underlying t = some (.int .u8) := by
 unfold tagA; intro h; split at h
 ·assumption
 ·split at h <;> simp at h
 ·simp at h
end Go.AE
namespace Go.AE
open Go
abbrev Loc := Nat → Nat → Option (Nat × Nat)
def mutB (φ : Loc) (B : Nat) : Prop := ∃ b v o, φ b v = some (B, o)
structure Ctx where
 P : Program
 τ : Ties
 fid : Nat → FuncId
 fidOk : ∀ f i, τ.idOf f = some i → fid i = f
 glFree : ∀ g v, τ.gl g = some v → v.locFree = true
 tagInj : ∀ t u g, τ.tagOf t = some g → τ.tagOf u = some g → t = u
 u8 : ∀ t, P.underlying t = some (.int .u8) → P.cellsOf t = 1
 bld : ∀ t u, tagA P t = 2 → tagA P u = 2 → t = u
 meth : ∀ name g i t, (g, i) ∈ τ.rows name → τ.tagOf t = some g → ∀ (v : Value) (w : World), (method (P.types.size + Made.depth) t v name).run P w = .ok (fid i, v) w
def rowOk (cs : List AV) : Prop := ∀ i, i < cs.length → (cs.getD i .bad).one = true
section
variable (C : Ctx)
inductive VRel (φ : Loc) (N : Nat → Prop) (W : World) : AV → Value → Prop
  | bad (x : Value) (h : x.oneCell' = true) : VRel φ N W .bad x
  | bool (b : Bool) : VRel φ N W (.bool b) (.bool b)
  | int (k : IntKind) (n : Int) : VRel φ N W (.int k n) (.int k n)
  | str (s : List UInt8) : VRel φ N W (.str s) (.string ⟨s.toArray⟩)
  | nilptr : VRel φ N W .nilptr (.pointer none)
  | ptr {b o v B O : Nat} (h : φ b v = some (B, O)) : VRel φ N W (.ptr b o v) (.pointer (some ⟨B, O + o, none⟩))
  | elt {cs : List AV} {o B O : Nat} (X : Nat → Value) (hB : B < W.heap.size) (hm : ¬ mutB φ B) (hN : ¬ N B)
      (ho : rowOk cs) (hc : ∀ i, i < cs.length → W.cell? ⟨B, O + i, none⟩ = some (X i)) (h : ∀ i, i < cs.length → VRel φ N W (cs.getD i .bad) (X i)) :
      VRel φ N W (.elt cs o) (.pointer (some ⟨B, O + o, none⟩))
  | nilsl : VRel φ N W .nilsl (.slice none 0 0)
  | lst {cs : List AV} {n sz cap : Nat} {ex : Bool} {a : Addr} (X : Nat → Value) (hl : cs.length = n * sz) (hcap : n ≤ cap) (hex : ex = true → cap = n)
      (ha : cs ≠ [] → a.spot = none ∧ a.block < W.heap.size ∧ ¬ mutB φ a.block ∧ ¬ N a.block)
      (ho : rowOk cs) (hc : ∀ i, i < cs.length → W.cell? ⟨a.block, a.off + i, none⟩ = some (X i)) (h : ∀ i, i < cs.length → VRel φ N W (cs.getD i .bad) (X i)) :
      VRel φ N W (.lst cs n sz ex) (.slice (some a) n cap)
  | sl {b o n sz v B O cap' : Nat} {cap : Option Nat} {a : Addr} {Cs : Array Value} {e : TypeId} {fz : Nat × Nat} (h : φ b v = some (B, O)) (hcap : n ≤ cap')
      (hex : ∀ c, cap = some c → cap' = c) (hW : W.heap[B]? = some (.cells Cs e fz)) (hr : O + o + cap' * sz ≤ Cs.size)
      (ha : a = ⟨B, O + o, none⟩ ∨ cap' = 0) : VRel φ N W (.sl b o n sz v cap) (.slice (some a) n cap')
  | nilmap : VRel φ N W .nilmap (.map none)
  | map {b B : Nat} (h : φ b 0 = some (B, 0)) : VRel φ N W (.map b) (.map (some B))
  | func {f : Nat} {as cs : List AV} {xs ys : List Value} (h1 : as.length = xs.length) (h2 : cs.length = ys.length)
      (ha : ∀ i, i < as.length → VRel φ N W (as.getD i .bad) (xs.getD i undef)) (hc : ∀ i, i < cs.length → VRel φ N W (cs.getD i .bad) (ys.getD i undef)) :
      VRel φ N W (.func f as cs) (.func (.func (C.fid f)) xs.toArray ys.toArray)
  | nilFunc : VRel φ N W .nilFunc .nilFunc
  | iface {g : Nat} {t : TypeId} {v : AV} {x : Value} (ht : C.τ.tagOf t = some g) (h : VRel φ N W v x) : VRel φ N W (.iface g v) (.iface t x)
  | nilIface : VRel φ N W .nilIface .nilIface
  | agg {cs : List AV} {xs : List Value} (hl : cs.length = xs.length) (ho : rowOk cs) (h : ∀ i, i < cs.length → VRel φ N W (cs.getD i .bad) (xs.getD i undef)) :
      VRel φ N W (.agg cs) (.agg xs.toArray)
  | tuple {cs : List AV} {xs : List Value} (hl : cs.length = xs.length) (h : ∀ i, i < cs.length → VRel φ N W (cs.getD i .bad) (xs.getD i undef)) :
      VRel φ N W (.tuple cs) (.tuple xs.toArray)
  | yld {b B : Nat} (h : φ b 0 = some (B, 0)) : VRel φ N W (.yld b) (.func (.yield B) #[] #[])
def LRel (φ : Loc) (N : Nat → Prop) (W : World) (cs : List AV) (xs : List Value) : Prop :=
 cs.length = xs.length ∧ ∀ i, i < cs.length → VRel C φ N W (cs.getD i .bad) (xs.getD i undef)
def stOf : LoopState → Nat
 | .ready => 0
 | .busy => 1
 | .done => 2
 | .exhausted => 3
def PdOk : Option AExit → Option Code → Prop
 | none, c => c = none
 | some .normal, _ => False
 | some (.exit i), c => c = some (.exit i)
 | some .ret, c => c = some .ret
def BRel (φ : Loc) (N : Nat → Prop) (W : World) (b : Nat) : ABlk → Prop
  | .cells cs tag wv st =>
    wv ≤ cs.length ∧ (∀ v x, φ b v = some x → v ≤ cs.length ∧ ∀ v' x', φ b v' = some x' → x'.1 = x.1 → x'.2 = x.2) ∧ (∃ x, φ b cs.length = some x) ∧
    (st < 2 → ∀ v B O, φ b v = some (B, O) → wv ≤ v →
      ∃ Cs e fz, W.heap[B]? = some (.cells Cs e fz) ∧ O + v ≤ Cs.size ∧ (tag ≠ 0 → O = 0) ∧ tagA C.P e = tag ∧
        (∀ i, i < v → VRel C φ N W (cs.getD i .bad) (Cs.getD (O + i) undef)) ∧ rowOk cs ∧
        (st = 0 → v = cs.length → fz.2 ≤ fz.1 ∨ Cs.size ≤ fz.1))
  | .map es => ∃ B M clock, φ b 0 = some (B, 0) ∧ W.heap[B]? = some (.map M clock) ∧ M.size = es.length ∧
      ∀ i, i < es.length → VRel C φ N W (es.getD i default).1 (M.getD i default).key ∧ VRel C φ N W (es.getD i default).2 (M.getD i default).val
  | .iter s pos => ∃ B, φ b 0 = some (B, 0) ∧ W.heap[B]? = some (.stringIter ⟨s.toArray⟩ pos)
  | .miter m => ∃ B M since clk, φ b 0 = some (B, 0) ∧ φ m 0 = some (M, 0) ∧ W.heap[B]? = some (.mapIter (some M) since #[] clk)
  | .loop st pd T ps as bd => ∃ B r, φ b 0 = some (B, 0) ∧ W.heap[B]? = some (.loop r) ∧ stOf r.state = st ∧ PdOk pd r.pending ∧ LRel C φ N W T r.tmps.toList ∧ r.params.toList = ps ∧
      lowCode C.P C.τ r.assign = some as ∧ lowCode C.P C.τ r.body = some bd
def aliveAt (H : AHeap) (b : Nat) : Prop := match H[b]? with
 | some (.cells _ _ _ st) => st < 2
 | some _ => True
 | none => False
structure HRel (φ : Loc) (N : Nat → Prop) (H : AHeap) (W : World) : Prop where
 blk : ∀ b k, H[b]? = some k → BRel C φ N W b k
 dom : ∀ b v x, φ b v = some x → b < H.length ∧ x.1 < W.heap.size
 inj : ∀ b v b' v' x x', φ b v = some x → φ b' v' = some x' → b ≠ b' → aliveAt H b → aliveAt H b' → x.1 ≠ x'.1
 nN : ∀ B, mutB φ B → ¬ N B
 nS : ∀ B, N B → B < W.heap.size
 gl : ∀ g v, C.τ.gl g = some v → VRel C φ N W v (.pointer (some ⟨g, 0, none⟩))
structure Ext (φ φ' : Loc) (W W' : World) : Prop where
 size : W.heap.size ≤ W'.heap.size
 mono : ∀ b v x, φ b v = some x → φ' b v = some x
 fresh : ∀ b v x, φ' b v = some x → φ b v = some x ∨ W.heap.size ≤ x.1 ∨ mutB φ x.1
 keep : ∀ B, B < W.heap.size → ¬ mutB φ B → W'.heap[B]? = W.heap[B]?
 shape : ∀ (B : Nat) (Cs : Array Value) (e : TypeId) (fz : Nat × Nat), W.heap[B]? = some (Obj.cells Cs e fz) → ∃ (Cs' : Array Value) (fz' : Nat × Nat), W'.heap[B]? = some (Obj.cells Cs' e fz') ∧ Cs'.size = Cs.size
 loops : ∀ (B : Nat) (r : Loop), W.heap[B]? = some (Obj.loop r) → ∃ r', W'.heap[B]? = some (Obj.loop r')
 os : W'.os = W.os
 output : W'.output = W.output
end
section
variable {C : Ctx} {φ φ' φ'' : Loc} {N : Nat → Prop} {W W' W'' : World}
theorem Ext.refl (φ : Loc) (W : World) : Ext φ φ W W :=
 ⟨Nat.le_refl _, fun _ _ _ h => h, fun _ _ _ h => .inl h, fun _ _ _ => rfl, fun _ Cs _ fz h => ⟨Cs, fz, h, rfl⟩, fun _ r h => ⟨r, h⟩, rfl, rfl⟩
theorem Ext.notMut (h : Ext φ φ' W W') {B : Nat} (hB : B < W.heap.size) (hm : ¬ mutB φ B) : ¬ mutB φ' B := by
 rintro ⟨b, v, o, hb⟩
 rcases h.fresh b v _ hb with h1 | h1 | h1
 ·exact hm ⟨b, v, o, h1⟩
 ·simp at h1; omega
 ·exact hm h1
theorem Ext.trans (h : Ext φ φ' W W') (h' : Ext φ' φ'' W' W'') : Ext φ φ'' W W'' where
 size := Nat.le_trans h.size h'.size
 mono b v x hx := h'.mono b v x (h.mono b v x hx)
 fresh b v x hx := by
  rcases h'.fresh b v x hx with h1 | h1 | h1
  ·exact h.fresh b v x h1
  ·exact .inr (.inl (Nat.le_trans h.size h1))
  ·obtain ⟨c, u, o, h2⟩ := h1
   rcases h.fresh c u _ h2 with h3 | h3 | h3
   ·exact .inr (.inr ⟨c, u, o, h3⟩)
   ·exact .inr (.inl h3)
   ·exact .inr (.inr h3)
 keep B hB hm := by rw [h'.keep B (Nat.lt_of_lt_of_le hB h.size) (h.notMut hB hm), h.keep B hB hm]
 shape B Cs e fz hB := by
  obtain ⟨C1, f1, h1, e1⟩ := h.shape B Cs e fz hB
  obtain ⟨C2, f2, h2, e2⟩ := h'.shape B C1 e f1 h1
  exact ⟨C2, f2, h2, e2.trans e1⟩
 loops B r hB := by
  obtain ⟨r1, h1⟩ := h.loops B r hB
  exact h'.loops B r1 h1
 os := h'.os.trans h.os
 output := h'.output.trans h.output
theorem Ext.cell (h : Ext φ φ' W W') {B o : Nat} (hB : B < W.heap.size) (hm : ¬ mutB φ B) : W'.cell? ⟨B, o, none⟩ = W.cell? ⟨B, o, none⟩ := by
 unfold World.cell?; simp only; rw [h.keep B hB hm]
theorem VRel.mono (h : Ext φ φ' W W') {v : AV} {x : Value} (hv : VRel C φ N W v x) : VRel C φ' N W' v x := by
  induction hv with
  | bad x h1 => exact .bad x h1
  | bool b => exact .bool b
  | int k n => exact .int k n
  | str s => exact .str s
  | nilptr => exact .nilptr
  | ptr hb => exact .ptr (h.mono _ _ _ hb)
  | elt X hB hm hN ho hc _ ih => exact .elt X (Nat.lt_of_lt_of_le hB h.size) (h.notMut hB hm) hN ho (fun i hi => by rw [h.cell hB hm]; exact hc i hi) ih
  | nilsl => exact .nilsl
  | @lst cs n sz cap ex a X hl hcap hex ha ho hc _ ih =>
    refine .lst X hl hcap hex (fun hne => ?_) ho (fun i hi => ?_) ih
    · obtain ⟨h1, h2, h3, h4⟩ := ha hne
      exact ⟨h1, Nat.lt_of_lt_of_le h2 h.size, h.notMut h2 h3, h4⟩
    · have hne : cs ≠ [] := by intro e; subst e; simp at hi
      obtain ⟨h1, h2, h3, h4⟩ := ha hne
      rw [h.cell h2 h3]; exact hc i hi
  | sl hb hcap hex hW hr ha =>
    obtain ⟨C', f', h1, h2⟩ := h.shape _ _ _ _ hW
    exact .sl (h.mono _ _ _ hb) hcap hex h1 (by rw [h2]; exact hr) ha
  | nilmap => exact .nilmap
  | map hb => exact .map (h.mono _ _ _ hb)
  | func h1 h2 _ _ ia ic => exact .func h1 h2 ia ic
  | nilFunc => exact .nilFunc
  | iface ht _ ih => exact .iface ht ih
  | nilIface => exact .nilIface
  | agg hl ho _ ih => exact .agg hl ho ih
  | tuple hl _ ih => exact .tuple hl ih
  | yld hb => exact .yld (h.mono _ _ _ hb)
theorem LRel.mono (h : Ext φ φ' W W') {cs : List AV} {xs : List Value} (hv : LRel C φ N W cs xs) : LRel C φ' N W' cs xs :=
 ⟨hv.1, fun i hi => (hv.2 i hi).mono h⟩
theorem LRel.nil : LRel C φ N W [] [] := ⟨rfl, fun i hi => by simp at hi⟩
theorem LRel.cons {v : AV} {x : Value} {cs : List AV} {xs : List Value} (h : VRel C φ N W v x) (hs : LRel C φ N W cs xs) : LRel C φ N W (v :: cs) (x :: xs) :=
  ⟨by simp [hs.1], fun i hi => by
    cases i with
    | zero => simpa using h
    | succ i => simpa using hs.2 i (by simpa using hi)⟩
theorem LRel.tail {v : AV} {x : Value} {cs : List AV} {xs : List Value} (h : LRel C φ N W (v :: cs) (x :: xs)) : VRel C φ N W v x ∧ LRel C φ N W cs xs :=
 ⟨by simpa using h.2 0 (by simp), ⟨by simpa using h.1, fun i hi => by simpa using h.2 (i + 1) (by simpa using hi)⟩⟩
theorem LRel.append {cs ds : List AV} {xs ys : List Value} (h : LRel C φ N W cs xs) (h' : LRel C φ N W ds ys) : LRel C φ N W (cs ++ ds) (xs ++ ys) :=
 ⟨by simp [h.1, h'.1], fun i hi => by
  by_cases hc : i < cs.length
  ·have := h.2 i hc
   simpa [List.getD_eq_getElem?_getD, List.getElem?_append_left hc, List.getElem?_append_left (h.1 ▸ hc)] using this
  ·have hc' : cs.length ≤ i := by omega
   have := h'.2 (i - cs.length) (by simp at hi; omega)
   simpa [List.getD_eq_getElem?_getD, List.getElem?_append_right hc', List.getElem?_append_right (h.1 ▸ hc'), h.1] using this⟩
theorem LRel.get {cs : List AV} {xs : List Value} (h : LRel C φ N W cs xs) {i : Nat} {v : AV} (hi : cs[i]? = some v) : ∃ x, xs[i]? = some x ∧ VRel C φ N W v x := by
 have hl : i < cs.length := by
  rcases Nat.lt_or_ge i cs.length with h1 | h1
  ·exact h1
  ·simp [List.getElem?_eq_none h1] at hi
 have hx : i < xs.length := h.1 ▸ hl
 refine ⟨xs[i], by simp [hx], ?_⟩
 have := h.2 i hl
 simpa [List.getD_eq_getElem?_getD, hi, hx] using this
theorem LRel.drop {cs : List AV} {xs : List Value} (h : LRel C φ N W cs xs) (k : Nat) : LRel C φ N W (cs.drop k) (xs.drop k) :=
 ⟨by simp [h.1], fun i hi => by
  have := h.2 (k + i) (by simp at hi; omega)
  simpa [List.getD_eq_getElem?_getD, List.getElem?_drop] using this⟩
theorem LRel.take {cs : List AV} {xs : List Value} (h : LRel C φ N W cs xs) (k : Nat) : LRel C φ N W (cs.take k) (xs.take k) :=
 ⟨by simp [h.1], fun i hi => by
  have hk : i < k := by simp at hi; omega
  have := h.2 i (by simp at hi; omega)
  simpa [List.getD_eq_getElem?_getD, List.getElem?_take, hk] using this⟩
theorem LRel.set {cs : List AV} {xs : List Value} (h : LRel C φ N W cs xs) (k : Nat) {v : AV} {x : Value} (hv : VRel C φ N W v x) : LRel C φ N W (cs.set k v) (xs.set k x) :=
 ⟨by simp [h.1], fun i hi => by
  have hi' : i < cs.length := by simpa using hi
  have hx : i < xs.length := h.1 ▸ hi'
  by_cases e : k = i
  ·subst e; simpa [List.getD_eq_getElem?_getD, List.getElem?_set, hi', hx] using hv
  ·have := h.2 i hi'
   simpa [List.getD_eq_getElem?_getD, List.getElem?_set, e] using this⟩
theorem LRel.replicate {v : AV} {x : Value} (hv : VRel C φ N W v x) (n : Nat) : LRel C φ N W (List.replicate n v) (List.replicate n x) :=
 ⟨by simp, fun i hi => by
  have : i < n := by simpa using hi
  simpa [List.getD_eq_getElem?_getD, List.getElem?_replicate, this] using hv⟩
def TRel (C : Ctx) (φ : Loc) (N : Nat → Prop) (W : World) (T : Tmps) (tmps : Array Value) : Prop := LRel C φ N W T tmps.toList
theorem VRel.undef : VRel C φ N W undefA Go.undef := .tuple (xs := []) rfl (fun i hi => by simp at hi)
theorem TRel.get {T : Tmps} {tmps : Array Value} (h : TRel C φ N W T tmps) (n : Nat) : VRel C φ N W (T.getD n undefA) (tmps.getD n Go.undef) := by
 by_cases hn : n < T.length
 ·have hx : n < tmps.size := by have := h.1; simp at this; omega
  have := h.2 n hn
  simpa [List.getD_eq_getElem?_getD, hn, hx, Array.getD] using this
 ·have hx : ¬ n < tmps.size := by have := h.1; simp at this; omega
  rw [List.getD_eq_getElem?_getD, List.getElem?_eq_none (by omega)]
  simp only [Array.getD, hx, dif_neg, not_false_eq_true, Option.getD_none]
  exact VRel.undef
theorem TRel.put {T : Tmps} {a : Act} (h : TRel C φ N W T a.tmps) (d : Option Nat) {v : AV} {x : Value} (hv : VRel C φ N W v x) : TRel C φ N W (putT T d v) (a.put d x).tmps := by
 cases d with
 | none => exact h
 | some d =>
  have := LRel.set h d hv
  simpa [TRel, putT, Act.put] using this
theorem VRel.one {v : AV} {x : Value} (h : VRel C φ N W v x) (ho : v.one = true) : x.oneCell' = true := by
 cases h <;> first | rfl | assumption | simp [AV.one] at ho
theorem rowOk.nil : rowOk [] := fun i hi => by simp at hi
theorem rowOk.cons {v : AV} {l : List AV} (h : v.one = true) (hl : rowOk l) : rowOk (v :: l) := fun i hi => by
  cases i with
  | zero => simpa using h
  | succ i => simpa using hl i (by simpa using hi)
theorem rowOk.iff {l : List AV} : rowOk l ↔ ∀ v ∈ l, v.one = true := by
 constructor
 ·intro h v hv
  obtain ⟨i, hi, rfl⟩ := List.getElem_of_mem hv
  simpa [List.getD_eq_getElem?_getD, hi] using h i hi
 ·intro h i hi
  have := h l[i] (List.getElem_mem hi)
  simpa [List.getD_eq_getElem?_getD, hi] using this
theorem rowOk.append {l m : List AV} (h : rowOk l) (h' : rowOk m) : rowOk (l ++ m) := by
 rw [rowOk.iff] at *
 intro v hv
 rcases List.mem_append.1 hv with h1 | h1
 ·exact h v h1
 ·exact h' v h1
theorem rowOk.drop {l : List AV} (h : rowOk l) (k : Nat) : rowOk (l.drop k) := by
 rw [rowOk.iff] at *; exact fun v hv => h v (List.mem_of_mem_drop hv)
theorem rowOk.take {l : List AV} (h : rowOk l) (k : Nat) : rowOk (l.take k) := by
 rw [rowOk.iff] at *; exact fun v hv => h v (List.mem_of_mem_take hv)
theorem rowOk.set {l : List AV} (h : rowOk l) (k : Nat) {v : AV} (hv : v.one = true) : rowOk (l.set k v) := by
 rw [rowOk.iff] at *
 intro w hw
 rcases List.mem_or_eq_of_mem_set hw with h1 | h1
 ·exact h w h1
 ·exact h1 ▸ hv
theorem VRel.cellsOk {v : AV} {x : Value} (h : VRel C φ N W v x) (hn : 0 < v.cells.length) : rowOk v.cells ∧ LRel C φ N W v.cells x.cells.toList := by
  cases h with
  | agg hl ho h => exact ⟨ho, by simpa [AV.cells, Value.cells] using ⟨hl, h⟩⟩
  | tuple hl h => simp [AV.cells] at hn
  | bad _ h =>
    refine ⟨.cons rfl .nil, ?_⟩
    have e : x.cells = #[x] := by cases x <;> first | rfl | simp [Value.oneCell'] at h
    rw [e]; exact LRel.cons (.bad _ h) LRel.nil
  | _ =>
    refine ⟨.cons rfl .nil, ?_⟩
    simp only [AV.cells, Value.cells]; refine LRel.cons ?_ LRel.nil; constructor <;> assumption
end
end Go.AE
namespace Go.AE
open Go
variable {C : Ctx} {φ : Loc} {N : Nat → Prop} {W : World}
theorem string_of_data (s : ByteArray) : (⟨s.data.toList.toArray⟩ : ByteArray) = s := by cases s; simp
mutual
theorem constA_ok : ∀ (v : Value) (av : AV), constA v = some av → VRel C φ N W av v ∧ (v.oneCell' = true → av.one = true)
 | .bool b, av, h => by simp [constA] at h; subst h; exact ⟨.bool b, fun _ => rfl⟩
 | .int k n, av, h => by simp [constA] at h; subst h; exact ⟨.int k n, fun _ => rfl⟩
 | .string s, av, h => by
  simp [constA] at h; subst h
  exact ⟨by have := VRel.str (C := C) (φ := φ) (N := N) (W := W) s.data.toList; rwa [string_of_data] at this, fun _ => rfl⟩
 | .pointer a, av, h => by cases a <;> simp [constA] at h; subst h; exact ⟨.nilptr, fun _ => rfl⟩
 | .slice a n c, av, h => by
  cases a with
  | some a => simp [constA] at h
  | none =>
   cases n with
   | succ n => simp [constA] at h
   | zero => cases c with
    | succ c => simp [constA] at h
    | zero => simp [constA] at h; subst h; exact ⟨.nilsl, fun _ => rfl⟩
 | .map a, av, h => by cases a <;> simp [constA] at h; subst h; exact ⟨.nilmap, fun _ => rfl⟩
 | .nilFunc, av, h => by simp [constA] at h; subst h; exact ⟨.nilFunc, fun _ => rfl⟩
 | .nilIface, av, h => by simp [constA] at h; subst h; exact ⟨.nilIface, fun _ => rfl⟩
 | .agg ⟨cs⟩, av, h => by
  simp only [constA] at h
  split at h <;> try simp at h
  rename_i l hl
  obtain ⟨h1, rfl⟩ := h
  have := constL_ok cs l hl
  exact ⟨.agg this.1 (rowOk.iff.2 h1) this.2, fun h => by simp [Value.oneCell'] at h⟩
 | .tuple ⟨cs⟩, av, h => by
  simp only [constA, Option.map_eq_some_iff] at h
  obtain ⟨l, hl, rfl⟩ := h
  exact ⟨.tuple (constL_ok cs l hl).1 (constL_ok cs l hl).2, fun h => by simp [Value.oneCell'] at h⟩
 | .float _ _, av, h | .complex _ _ _, av, h | .chan _, av, h | .func _ _ _, av, h | .iface _ _, av, h => by simp [constA] at h
theorem constL_ok : ∀ (vs : List Value) (l : List AV), constL vs = some l → LRel C φ N W l vs
 | [], l, h => by simp [constL] at h; subst h; exact LRel.nil
 | v :: vs, l, h => by
  simp only [constL] at h
  split at h <;> simp at h
  rename_i v' l' h1 h2
  subst h
  exact LRel.cons (constA_ok v v' h1).1 (constL_ok vs l' h2)
end
structure Slots (C : Ctx) (φ : Loc) (N : Nat → Prop) (W : World) (T : Tmps) (a : Act) : Prop where
 t : TRel C φ N W T a.tmps
 gl : ∀ g v, C.τ.gl g = some v → VRel C φ N W v (.pointer (some ⟨g, 0, none⟩))
variable {T : Tmps} {a : Act}
theorem ev_ok (h : Slots C φ N W T a) {x : Operand} {x' : Opd} (hl : lowOpd C.τ x = some x') : VRel C φ N W (ev T x') (a.eval x) := by
 cases x with
 | tmp t => simp [lowOpd] at hl; subst hl; exact h.t.get t
 | const v =>
  simp only [lowOpd, Option.map_eq_some_iff] at hl
  obtain ⟨v', hv, rfl⟩ := hl
  exact (constA_ok v v' hv).1
 | global g =>
  simp only [lowOpd, Option.map_eq_some_iff] at hl
  obtain ⟨v', hv, rfl⟩ := hl
  exact h.gl g v' hv
 | func f =>
  simp only [lowOpd, Option.map_eq_some_iff] at hl
  obtain ⟨i, hi, rfl⟩ := hl
  have := VRel.func (C := C) (φ := φ) (N := N) (W := W) (f := i) (as := []) (cs := []) (xs := []) (ys := []) rfl rfl (fun i hi => by simp at hi) (fun i hi => by simp at hi)
  simpa [ev, Act.eval, C.fidOk f i hi] using this
theorem evs_ok (h : Slots C φ N W T a) : ∀ {xs : List Operand} {xs' : List Opd}, lowOpds C.τ xs = some xs' → LRel C φ N W (xs'.map (ev T)) (xs.map a.eval)
 | [], xs', hl => by simp [lowOpds] at hl; subst hl; exact LRel.nil
 | x :: xs, xs', hl => by
  simp only [lowOpds] at hl
  split at hl <;> simp at hl
  rename_i x' l' h1 h2
  subst hl
  exact LRel.cons (ev_ok h h1) (evs_ok h h2)
def Gives (P : Program) (o : Oper) (a : Act) (W : World) (x : Value) (W' : World) : Prop :=
  (execOp a.eval o).run P W = .ok (.value x) W' ∨ ((execOp a.eval o).run P W = .ok .skip W' ∧ x = undef)
def OpSound (C : Ctx) (N : Nat → Prop) (φ : Loc) (W : World) (o : Oper) (a : Act) (v : AV) (H' : AHeap) : Prop :=
 ∃ φ' x W', Gives C.P o a W x W' ∧ HRel C φ' N H' W' ∧ VRel C φ' N W' v x ∧ Ext φ φ' W W'
theorem OpSound.pure {o : Oper} {v : AV} {H : AHeap} (hH : HRel C φ N H W) {x : Value} (hr : (execOp a.eval o).run C.P W = .ok (.value x) W) (hv : VRel C φ N W v x) :
  OpSound C N φ W o a v H := ⟨φ, x, W, .inl hr, hH, hv, Ext.refl φ W⟩
@[simp] theorem r_underlying {P : Program} {t : TypeId} {d : TypeDesc} (h : P.underlying t = some d) (w : World) : (underlying t).run P w = .ok d w := by
 simp [underlying, h]
theorem r_info {P : Program} {t : TypeId} {i : TypeInfo} (h : P.info? t = some i) (w : World) : (typeInfo t).run P w = .ok i w := by
 simp [typeInfo, h]
theorem r_size {P : Program} {t : TypeId} {n : Nat} (h : sizeA P t = some n) (w : World) : (sizeOf t).run P w = .ok n w := by
 simp only [sizeA, Option.map_eq_some_iff] at h
 obtain ⟨i, hi, rfl⟩ := h
 simp [Go.sizeOf, r_info hi]
theorem r_agg {P : Program} {t : TypeId} {b : Bool} (h : aggA P t = some b) (w : World) : (isAgg t).run P w = .ok b w := by
 simp only [aggA, Option.map_eq_some_iff] at h
 obtain ⟨d, hd, rfl⟩ := h
 cases d <;> simp [isAgg, r_underlying hd]
theorem r_zero {P : Program} {t : TypeId} {z : AV} (h : zeroA P t = some z) (w : World) : ∃ x, (zeroValue t).run P w = .ok x w ∧ constA x = some z := by
 simp only [zeroA, Option.bind_eq_some_iff] at h
 obtain ⟨x, ⟨i, hi, hz⟩, hx⟩ := h
 exact ⟨x, by simp [zeroValue, r_info hi, hz], hx⟩
end Go.AE
namespace Go.AE
open Go
variable {C : Ctx} {φ : Loc} {N : Nat → Prop} {W : World} {T : Tmps} {a : Act} {H : AHeap}
theorem toList_data (s : ByteArray) : s.data.toList = s.toList := (ByteArray.toList_eq s).symm
theorem bytes_mk (l : List UInt8) : (⟨l.toArray⟩ : ByteArray).toList = l := by
 rw [← toList_data]
theorem bytes_size (l : List UInt8) : (⟨l.toArray⟩ : ByteArray).size = l.length := by simp [ByteArray.size]
theorem bytes_append (l m : List UInt8) : (⟨l.toArray⟩ : ByteArray) ++ ⟨m.toArray⟩ = ⟨(l ++ m).toArray⟩ := by
 apply ByteArray.ext
 simp
theorem bytes_extract (l : List UInt8) (i j : Nat) : (⟨l.toArray⟩ : ByteArray).extract i j = ⟨((l.take j).drop i).toArray⟩ := by
 apply ByteArray.ext
 simp [List.drop_take]
theorem eqGuard_int (op : BinOp) (t : TypeId) (x y : Operand) (k k' : IntKind) (m n : Int) : (eqGuard op t x y (.int k m) (.int k' n)).run C.P W = .ok () W := by
 unfold eqGuard
 cases op <;> rfl
theorem eqGuard_str (op : BinOp) (t : TypeId) (x y : Operand) (r s : ByteArray) : (eqGuard op t x y (.string r) (.string s)).run C.P W = .ok () W := by
 unfold eqGuard
 cases op <;> rfl
theorem bin_ok {op : BinOp} {u v w : AV} {X Y : Value} (hu : VRel C φ N W u X) (hv : VRel C φ N W v Y) (h : binA op u v = some w) (t : TypeId) (x y : Operand) :
    (eqGuard op t x y X Y).run C.P W = .ok () W ∧ ∃ Z, (binOp op t X Y).run C.P W = .ok Z W ∧ VRel C φ N W w Z := by
  cases hu with
  | int k m =>
    cases hv with
    | int k' n =>
      refine ⟨eqGuard_int .., ?_⟩
      cases op <;> simp only [binA] at h
      case shl | shr =>
        split at h <;> simp at h
        subst h
        exact ⟨_, by simp [binOp, Op.shift, *], .int ..⟩
      all_goals
        split at h <;> simp at h
        rename_i hk
        simp only [ne_eq, Decidable.not_not] at hk
        subst hk
        first
          | (subst h; exact ⟨_, by simp [binOp, Op.intArith, Op.intBits, Op.intCmp]; rfl, by constructor⟩)
          | (obtain ⟨h0, rfl⟩ := h; exact ⟨_, by simp [binOp, Op.intDiv, h0]; rfl, by constructor⟩)
          | skip
    | _ => simp [binA] at h
  | str r =>
    cases hv with
    | str s =>
      refine ⟨eqGuard_str .., ?_⟩
      cases op <;> simp only [binA] at h
      case add =>
        split at h <;> simp at h
        rename_i hl
        subst h
        refine ⟨_, ?_, VRel.str (r ++ s)⟩
        have : ¬ ((((⟨r.toArray⟩ : ByteArray).size + (⟨s.toArray⟩ : ByteArray).size : Nat) : Int) > IntKind.i64.max) := by
          rw [bytes_size, bytes_size]; simp [IntKind.max, IntKind.signed, IntKind.bits]; omega
        simp only [binOp, Op.stringOp]
        rw [if_neg this, bytes_append]; rfl
      all_goals first
        | (obtain rfl := Option.some.inj h; exact ⟨_, by simp only [binOp, Op.stringOp, bytes_mk]; rfl, by constructor⟩)
        | (simp at h; done)
    | _ => simp [binA] at h
  | _ => simp [binA] at h
theorem un_ok {op : UnOp} {u w : AV} {X : Value} (hu : VRel C φ N W u X) (h : unA op u = some w) :
  ∃ Z, (Op.unary op X).run C.P W = .ok Z W ∧ VRel C φ N W w Z := by
 cases hu with
 | int k n =>
  cases op <;> simp only [unA] at h <;> first
   | (simp at h; done)
   | (obtain rfl := Option.some.inj h; exact ⟨_, rfl, .int ..⟩)
 | bool b =>
  cases op <;> simp only [unA] at h <;> first
   | (simp at h; done)
   | (obtain rfl := Option.some.inj h; exact ⟨_, by simp [Op.unary]; rfl, by constructor⟩)
 | _ => simp [unA] at h
theorem LRel.agg_part {cs : List AV} {xs : List Value} (ho : rowOk cs) (h : LRel C φ N W cs xs) {t : TypeId} {o sz : Nat} {ag : Bool} {w : AV} (hsz : sizeA C.P t = some sz) (hag : aggA C.P t = some ag)
    (hw : AE.part cs o sz ag = some w) : ∃ Z, (Go.part t xs.toArray o).run C.P W = .ok Z W ∧ VRel C φ N W w Z ∧ (ag = false → w.one = true) := by
  unfold AE.part at hw
  cases ag with
  | true =>
    simp only [if_true] at hw
    split at hw <;> simp at hw
    rename_i hl
    subst hw
    refine ⟨.agg ((xs.drop o).take sz).toArray, ?_, .agg ?_ ((ho.drop o).take sz) ((h.drop o).take sz).2, fun h => by simp at h⟩
    · simp [Go.part, r_agg hag, r_size hsz]
    · simp [h.1]
  | false =>
    simp only [Bool.false_eq_true, if_false] at hw
    obtain ⟨x, hx, hr⟩ := h.get hw
    refine ⟨x, ?_, hr, fun _ => rowOk.iff.1 ho w (List.mem_of_getElem? hw)⟩
    simp [Go.part, r_agg hag, hx]
theorem pureV_some {r : Option AV} {v : AV} {H' : AHeap} {k : Kd} (h : pureV H r = some (v, H', k)) : r = some v ∧ H' = H ∧ k = .p := by
 simp only [pureV, Option.map_eq_some_iff, Prod.mk.injEq] at h
 obtain ⟨w, hw, rfl, rfl, rfl⟩ := h
 exact ⟨hw, rfl, rfl⟩
theorem readV_some {r : Option AV} {b : Nat} {v : AV} {H' : AHeap} {k : Kd} (h : readV H b r = some (v, H', k)) : r = some v ∧ H' = H ∧ k = .r b := by
 simp only [readV, Option.map_eq_some_iff, Prod.mk.injEq] at h
 obtain ⟨w, hw, rfl, rfl, rfl⟩ := h
 exact ⟨hw, rfl, rfl⟩
theorem map_toArray' (f : Operand → Value) (xs : Array Operand) : Array.map f xs = (xs.toList.map f).toArray := by
 apply Array.ext'; simp
theorem s_mv {o : Oper} {x : Operand} {x' : Opd} {v : AV} {H' : AHeap} {k : Kd} (ho : o.op = .move x ∨ o.op = .assign x) (hx : lowOpd C.τ x = some x') (hS : Slots C φ N W T a) (hH : HRel C φ N H W)
    (h : opA T H (.mv x') = some (v, H', k)) : OpSound C N φ W o a v H' := by
  simp [opA, pureV] at h
  obtain ⟨rfl, rfl, rfl⟩ := h
  refine .pure hH ?_ (ev_ok hS hx)
  rcases ho with h | h <;> simp [execOp, h]
theorem s_pick {o : Oper} {c x y : Operand} {c' x' y' : Opd} {v : AV} {H' : AHeap} {k : Kd} (ho : o.op = .pick c x y) (hc : lowOpd C.τ c = some c') (hx : lowOpd C.τ x = some x') (hy : lowOpd C.τ y = some y')
    (hS : Slots C φ N W T a) (hH : HRel C φ N H W) (h : opA T H (.pick c' x' y') = some (v, H', k)) : OpSound C N φ W o a v H' := by
  have h1 := ev_ok hS hc
  simp only [opA] at h
  split at h <;> simp [pureV] at h
  rename_i b hb
  rw [hb] at h1
  generalize hz : a.eval c = z at h1
  cases h1
  obtain ⟨rfl, rfl, rfl⟩ := h
  cases b
  · exact .pure hH (by simp [execOp, ho, hz, asBool]) (ev_ok hS hy)
  · exact .pure hH (by simp [execOp, ho, hz, asBool]) (ev_ok hS hx)
theorem s_bin {o : Oper} {op : BinOp} {t u : TypeId} {x y : Operand} {x' y' : Opd} {v : AV} {H' : AHeap} {k : Kd} (ho : o.op = .binOp op t x y u) (hx : lowOpd C.τ x = some x') (hy : lowOpd C.τ y = some y')
    (hS : Slots C φ N W T a) (hH : HRel C φ N H W) (h : opA T H (.bin op x' y') = some (v, H', k)) : OpSound C N φ W o a v H' := by
  simp only [opA, pureV, Option.map_eq_some_iff, Prod.mk.injEq] at h
  obtain ⟨w, hw, rfl, rfl, rfl⟩ := h
  obtain ⟨h1, Z, h2, h3⟩ := bin_ok (ev_ok hS hx) (ev_ok hS hy) hw t x y
  exact .pure hH (by simp [execOp, ho, h1, h2]) h3
theorem s_un {o : Oper} {op : UnOp} {t : TypeId} {x : Operand} {x' : Opd} {v : AV} {H' : AHeap} {k : Kd} (ho : o.op = .unOp op t x) (hx : lowOpd C.τ x = some x')
    (hS : Slots C φ N W T a) (hH : HRel C φ N H W) (h : opA T H (.un op x') = some (v, H', k)) : OpSound C N φ W o a v H' := by
  simp only [opA, pureV, Option.map_eq_some_iff, Prod.mk.injEq] at h
  obtain ⟨w, hw, rfl, rfl, rfl⟩ := h
  obtain ⟨Z, h2, h3⟩ := un_ok (ev_ok hS hx) hw
  exact .pure hH (by simp [execOp, ho, h2]) h3
theorem s_nilChk {o : Oper} {x : Operand} {x' : Opd} {v : AV} {H' : AHeap} {k : Kd} (ho : o.op = .nilCheck x) (hx : lowOpd C.τ x = some x')
    (hS : Slots C φ N W T a) (hH : HRel C φ N H W) (h : opA T H (.nilChk x') = some (v, H', k)) : OpSound C N φ W o a v H' := by
  have h1 := ev_ok hS hx
  simp only [opA] at h
  split at h <;> simp [pureV] at h
  all_goals
    rename_i hb
    rw [hb] at h1
    generalize hz : a.eval x = z at h1
    obtain ⟨rfl, rfl, rfl⟩ := h
    refine .pure hH (x := z) ?_ h1
    cases h1 <;> simp [execOp, ho, hz]
theorem s_mkIface {o : Oper} {t : TypeId} {x : Operand} {x' : Opd} {g : Nat} {d : TypeDesc} {v : AV} {H' : AHeap} {k : Kd} (ho : o.op = .makeInterface t x) (hx : lowOpd C.τ x = some x')
    (hd : C.P.underlying t = some d) (hn : ∀ ms, d ≠ .interface ms) (hg : C.τ.tagOf t = some g)
    (hS : Slots C φ N W T a) (hH : HRel C φ N H W) (h : opA T H (.mkIface g x') = some (v, H', k)) : OpSound C N φ W o a v H' := by
  simp [opA, pureV] at h
  obtain ⟨rfl, rfl, rfl⟩ := h
  refine .pure hH (x := .iface t (a.eval x)) ?_ (.iface hg (ev_ok hS hx))
  simp only [execOp, ho, Instr.makeInterface]
  cases d <;> simp [r_underlying hd]
  exact absurd rfl (hn _)
theorem s_mkFunc {o : Oper} {f : FuncId} {i : Nat} {xs ys : Array Operand} {xs' ys' : List Opd} {v : AV} {H' : AHeap} {k : Kd} (ho : o.op = .makeFunc (.func f) xs ys) (hi : C.τ.idOf f = some i)
    (hx : lowOpds C.τ xs.toList = some xs') (hy : lowOpds C.τ ys.toList = some ys')
    (hS : Slots C φ N W T a) (hH : HRel C φ N H W) (h : opA T H (.mkFunc i xs' ys') = some (v, H', k)) : OpSound C N φ W o a v H' := by
  simp [opA, pureV] at h
  obtain ⟨rfl, rfl, rfl⟩ := h
  have h1 := evs_ok hS hx
  have h2 := evs_ok hS hy
  refine .pure hH (x := .func (.func (C.fid i)) (xs.toList.map a.eval).toArray (ys.toList.map a.eval).toArray) ?_ (.func h1.1 h2.1 h1.2 h2.2)
  simp [execOp, ho, Instr.makeFunc, C.fidOk f i hi, map_toArray']
theorem s_extract {o : Oper} {x : Operand} {x' : Opd} {i : Nat} {v : AV} {H' : AHeap} {k : Kd} (ho : o.op = .extract x i) (hx : lowOpd C.τ x = some x')
    (hS : Slots C φ N W T a) (hH : HRel C φ N H W) (h : opA T H (.extract i x') = some (v, H', k)) : OpSound C N φ W o a v H' := by
  have h1 := ev_ok hS hx
  simp only [opA] at h
  split at h <;> try simp at h
  rename_i vs hb
  obtain ⟨hw, rfl, rfl⟩ := pureV_some h
  rw [hb] at h1
  generalize hz : a.eval x = z at h1
  cases h1 with
  | @tuple cs xs hl hr =>
    obtain ⟨Z, h2, h3⟩ := LRel.get ⟨hl, hr⟩ hw
    exact .pure hH (by simp [execOp, ho, hz, Instr.extract, h2]) h3
theorem s_field {o : Oper} {t : TypeId} {x : Operand} {x' : Opd} {i sz : Nat} {ag : Bool} {fs : Array Field} {f : Field} {v : AV} {H' : AHeap} {k : Kd} (ho : o.op = .field t x i) (hx : lowOpd C.τ x = some x')
    (hd : C.P.underlying t = some (.struct fs)) (hf : fs[i]? = some f) (hsz : sizeA C.P f.type = some sz) (hag : aggA C.P f.type = some ag)
    (hS : Slots C φ N W T a) (hH : HRel C φ N H W) (h : opA T H (.field f.offset sz ag x') = some (v, H', k)) : OpSound C N φ W o a v H' := by
  have h1 := ev_ok hS hx
  simp only [opA] at h
  split at h <;> try simp at h
  rename_i cs hb
  obtain ⟨hw, rfl, rfl⟩ := pureV_some h
  rw [hb] at h1
  generalize hz : a.eval x = z at h1
  cases h1 with
  | @agg cs xs hl hro hr =>
    obtain ⟨Z, h2, h3, _⟩ := LRel.agg_part hro ⟨hl, hr⟩ hsz hag hw
    exact .pure hH (by simp [execOp, ho, hz, Instr.field, r_underlying hd, hf, asAgg, h2]) h3
theorem asI_ok {v : AV} {x : Value} {n : Int} (h : VRel C φ N W v x) (hn : asI v = some n) : ∃ k, x = .int k n := by
 cases h <;> simp [asI] at hn
 subst hn; exact ⟨_, rfl⟩
theorem s_idxStr {o : Oper} {t : TypeId} {x i : Operand} {x' i' : Opd} {v : AV} {H' : AHeap} {k : Kd} (ho : o.op = .index t x i) (hx : lowOpd C.τ x = some x') (hi : lowOpd C.τ i = some i')
    (hd : C.P.underlying t = some .string)
    (hS : Slots C φ N W T a) (hH : HRel C φ N H W) (h : opA T H (.idxStr x' i') = some (v, H', k)) : OpSound C N φ W o a v H' := by
  have h1 := ev_ok hS hx
  have h2 := ev_ok hS hi
  simp only [opA] at h
  split at h <;> try simp at h
  rename_i s n hs hn
  rw [hs] at h1
  obtain ⟨kk, hk⟩ := asI_ok h2 hn
  generalize hz : a.eval x = z at h1
  cases h1
  simp [pureV] at h
  obtain ⟨h0, b, hb, rfl, rfl, rfl⟩ := h
  refine .pure hH (x := .int .u8 b.toNat) ?_ (.int ..)
  have hlt : n.toNat < s.length := by
    rcases Nat.lt_or_ge n.toNat s.length with h3 | h3
    · exact h3
    · simp [List.getElem?_eq_none h3] at hb
  have hg : (⟨s.toArray⟩ : ByteArray)[n.toNat]? = some b := by
    have e : s[n.toNat] = b := by simpa [hlt] using hb
    have h4 : n.toNat < (⟨s.toArray⟩ : ByteArray).size := by rw [bytes_size]; exact hlt
    simp only [getElem?_def, h4, dif_pos]
    exact congrArg some e
  simp [execOp, ho, hz, hk, Instr.index, r_underlying hd, asIntOf, h0, hg]
theorem s_idxArr {o : Oper} {t e : TypeId} {x i : Operand} {x' i' : Opd} {len sz : Nat} {ag : Bool} {v : AV} {H' : AHeap} {k : Kd} (ho : o.op = .index t x i) (hx : lowOpd C.τ x = some x') (hi : lowOpd C.τ i = some i')
    (hd : C.P.underlying t = some (.array len e)) (hsz : sizeA C.P e = some sz) (hag : aggA C.P e = some ag)
    (hS : Slots C φ N W T a) (hH : HRel C φ N H W) (h : opA T H (.idxArr len sz ag x' i') = some (v, H', k)) : OpSound C N φ W o a v H' := by
  have h1 := ev_ok hS hx
  have h2 := ev_ok hS hi
  simp only [opA] at h
  split at h <;> try simp at h
  rename_i cs n hs hn
  obtain ⟨⟨h0, hlt⟩, h⟩ := h
  rw [hs] at h1
  obtain ⟨kk, hk⟩ := asI_ok h2 hn
  generalize hz : a.eval x = z at h1
  obtain ⟨hw, rfl, rfl⟩ := pureV_some h
  cases h1 with
  | @agg cs xs hl hro hr =>
    obtain ⟨Z, h3, h4, _⟩ := LRel.agg_part hro ⟨hl, hr⟩ hsz hag hw
    exact .pure hH (by simp [execOp, ho, hz, hk, Instr.index, r_underlying hd, asIntOf, h0, hlt, r_size hsz, h3]) h4
end Go.AE
namespace Go.AE
open Go
variable {C : Ctx} {φ φ' : Loc} {N : Nat → Prop} {W W' : World} {T : Tmps} {a : Act} {H : AHeap}
def setBlk (W : World) (B : Nat) (o : Obj) : World := { W with heap := W.heap.setIfInBounds B o }
def pushBlk (W : World) (o : Obj) : World := { W with heap := W.heap.push o }
def drawW (W : World) : World := { W with drawn := W.drawn + 1 }
theorem setBlk_same {B : Nat} {o : Obj} (h : B < W.heap.size) : (setBlk W B o).heap[B]? = some o := by simp [setBlk, h]
theorem setBlk_other {B B' : Nat} {o : Obj} (h : B' ≠ B) : (setBlk W B o).heap[B']? = W.heap[B']? := by
 simp [setBlk, Ne.symm h]
theorem setBlk_size {B : Nat} {o : Obj} : (setBlk W B o).heap.size = W.heap.size := by simp [setBlk]
theorem lt_of_heap {B : Nat} {o : Obj} (h : W.heap[B]? = some o) : B < W.heap.size := by
 rcases Nat.lt_or_ge B W.heap.size with h1 | h1
 ·exact h1
 ·simp [Array.getElem?_eq_none h1] at h
theorem pushBlk_old {B : Nat} {o : Obj} (h : B < W.heap.size) : (pushBlk W o).heap[B]? = W.heap[B]? := by
 show (W.heap.push o)[B]? = _
 rw [Array.getElem?_push, if_neg (Nat.ne_of_lt h)]
theorem pushBlk_new {o : Obj} : (pushBlk W o).heap[W.heap.size]? = some o := by
 show (W.heap.push o)[W.heap.size]? = _
 rw [Array.getElem?_push, if_pos rfl]
theorem pushBlk_size {o : Obj} : (pushBlk W o).heap.size = W.heap.size + 1 := by simp [pushBlk]
theorem cell_of {B o : Nat} {Cs : Array Value} {e : TypeId} {fz : Nat × Nat} (h : W.heap[B]? = some (.cells Cs e fz)) : W.cell? ⟨B, o, none⟩ = Cs[o]? := by
 simp [World.cell?, h]
theorem add_none (B o i : Nat) : (⟨B, o, none⟩ : Addr).add i = ⟨B, o + i, none⟩ := by unfold Addr.add; split <;> simp_all
theorem add_spot {x : Addr} (h : x.spot = none) (i : Nat) : x.add i = ⟨x.block, x.off + i, none⟩ := by
 cases x; simp at h; subst h; exact add_none ..
theorem putCells_length {α : Type} : ∀ (l : List α) (cs : List α) (o : Nat), (putCells cs o l).length = cs.length
 | [], _, _ => rfl
 | v :: l, cs, o => by rw [putCells, putCells_length l]; simp
theorem rowOk.put : ∀ {l cs : List AV} {o : Nat}, rowOk cs → rowOk l → rowOk (putCells cs o l)
 | [], _, _, h, _ => h
 | v :: l, cs, o, h, hl => by
  rw [putCells]
  exact rowOk.put (h.set o (rowOk.iff.1 hl v (by simp))) (rowOk.iff.2 fun w hw => rowOk.iff.1 hl w (by simp [hw]))
theorem LRel.put : ∀ {l cs : List AV} {ys xs : List Value} {o : Nat}, LRel C φ N W cs xs → LRel C φ N W l ys → LRel C φ N W (putCells cs o l) (putCells xs o ys)
 | [], _, [], _, _, h, _ => h
 | [], _, _ :: _, _, _, _, hl => by simp [LRel] at hl
 | _ :: _, _, [], _, _, _, hl => by simp [LRel] at hl
 | v :: l, cs, y :: ys, xs, o, h, hl => by
  rw [putCells, putCells]
  exact LRel.put (h.set o hl.tail.1) hl.tail.2
def RowRel (C : Ctx) (φ : Loc) (N : Nat → Prop) (W : World) (cs : List AV) (v : Nat) (Cs : Array Value) (O : Nat) : Prop :=
 ∀ i, i < v → VRel C φ N W (cs.getD i .bad) (Cs.getD (O + i) undef)
theorem RowRel.put {l : List AV} {ys : List Value} {cs : List AV} {v O : Nat} (hl : LRel C φ N W l ys) : ∀ {Cs : Array Value} {o : Nat}, RowRel C φ N W cs v Cs O → O + v ≤ Cs.size → v = cs.length →
  RowRel C φ N W (putCells cs o l) v ⟨putCells Cs.toList (O + o) ys⟩ O := by
 induction l generalizing cs ys v with
 | nil =>
  intro Cs o h _ _
  cases ys with
  | nil => exact h
  | cons => simp [LRel] at hl
 | cons w l ih =>
  intro Cs o h hs hv
  cases ys with
  | nil => simp [LRel] at hl
  | cons y ys =>
   have h1 : RowRel C φ N W (cs.set o w) v ⟨Cs.toList.set (O + o) y⟩ O := by
    intro i hi
    by_cases e : o = i
    ·subst e
     have : O + o < Cs.size := by omega
     simpa [List.getD_eq_getElem?_getD, ← hv, hi, Array.getD, this] using hl.tail.1
    ·have := h i hi
     have e' : ¬ (O + o = O + i) := by omega
     simpa [List.getD_eq_getElem?_getD, List.getElem?_set, e, Array.getD, e', List.getElem_set] using this
   have := ih hl.tail.2 (Cs := ⟨Cs.toList.set (O + o) y⟩) (o := o + 1) h1 (by simpa using hs) (by simpa using hv)
   simpa [putCells, Nat.add_assoc] using this
theorem run_storeCells_blk (P : Program) (B o : Nat) (e : TypeId) (fz : Nat × Nat) : ∀ (vs : List Value) (i : Nat) (W : World) (Cs : Array Value), W.heap[B]? = some (.cells Cs e fz) → o + i + vs.length ≤ Cs.size →
    (fz.2 ≤ fz.1 ∨ Cs.size ≤ fz.1) → (∀ v ∈ vs, v.oneCell' = true) → (storeCells ⟨B, o, none⟩ vs i).run P W = .ok () (setBlk W B (.cells ⟨putCells Cs.toList (o + i) vs⟩ e fz))
  | [], i, W, Cs, hW, _, _, _ => by
    have : setBlk W B (.cells ⟨putCells Cs.toList (o + i) []⟩ e fz) = W := by
      cases W with
      | mk heap tape drawn os output =>
        simp only [setBlk, putCells, World.mk.injEq, and_true]
        apply Array.ext_getElem?
        intro j
        rw [Array.getElem?_setIfInBounds]
        split
        · rename_i h; subst h
          split
          · exact hW.symm
          · rename_i h2; exact absurd (lt_of_heap hW) h2
        · rfl
    rw [this]; rfl
  | v :: vs, i, W, Cs, hW, hs, hf, h1 => by
    have hl := lt_of_heap hW
    have hlt : o + i < Cs.size := by simp at hs; omega
    have hst : (store ((⟨B, o, none⟩ : Addr).add i) v).run P W = .ok () (setBlk W B (.cells ⟨Cs.toList.set (o + i) v⟩ e fz)) := by
      rw [add_none, run_store P W _ v _ (h1 v (by simp)), cell_of hW]
      have hfr : W.frozen? ⟨B, o + i, none⟩ = false := by
        simp only [World.frozen?, hW]
        rcases hf with h | h <;> simp <;> omega
      simp only [hlt, Array.getElem?_eq_getElem, hfr]
      have : W.setCell ⟨B, o + i, none⟩ v = setBlk W B (.cells ⟨Cs.toList.set (o + i) v⟩ e fz) := by
        simp only [World.setCell, setBlk, World.mk.injEq, and_true, true_and]
        apply Array.ext_getElem?
        intro j
        rw [Array.getElem?_modify, Array.getElem?_setIfInBounds]
        split
        · rename_i h; subst h
          simp only [hW, Option.map_some, hl, if_true]
          simp
          apply Array.ext'
          simp
        · rfl
      rw [this]; rfl
    have ih := run_storeCells_blk P B o e fz vs (i + 1) (setBlk W B (.cells ⟨Cs.toList.set (o + i) v⟩ e fz)) ⟨Cs.toList.set (o + i) v⟩ (setBlk_same hl) (by simp at hs ⊢; omega) (by simpa using hf)
      (fun x hx => h1 x (by simp [hx]))
    simp only [storeCells, Sem.run_bind, hst, Result.andThen_ok, ih]
    have : setBlk (setBlk W B (.cells ⟨Cs.toList.set (o + i) v⟩ e fz)) B (.cells ⟨putCells (Cs.toList.set (o + i) v) (o + (i + 1)) vs⟩ e fz) =
        setBlk W B (.cells ⟨putCells Cs.toList (o + i) (v :: vs)⟩ e fz) := by
      simp only [setBlk, World.mk.injEq, and_true, true_and]
      apply Array.ext_getElem?
      intro j
      simp only [Array.getElem?_setIfInBounds, Array.size_setIfInBounds, putCells, Nat.add_assoc]
      split <;> simp_all
    rw [this]
end Go.AE
namespace Go.AE
open Go
variable {C : Ctx} {φ φ' : Loc} {N : Nat → Prop} {W W' : World} {H : AHeap}
theorem BRel.other {b : Nat} {k : ABlk} (hE : Ext φ φ' W W') (hφ : ∀ v, φ' b v = φ b v) (h : BRel C φ N W b k)
    (hk : ∀ v x, φ b v = some x → (match k with | .cells _ _ _ st => st < 2 | _ => True) → W'.heap[x.1]? = W.heap[x.1]?) : BRel C φ' N W' b k := by
  cases k with
  | cells cs tag wv st =>
    obtain ⟨h0, h1, h2, h3⟩ := h
    refine ⟨h0, fun v x hx => ⟨(h1 v x (hφ v ▸ hx)).1, fun v' x' hx' => (h1 v x (hφ v ▸ hx)).2 v' x' (hφ v' ▸ hx')⟩, by rw [hφ]; exact h2, fun hst v B O hv hwv => ?_⟩
    rw [hφ] at hv
    obtain ⟨Cs, e, fz, g1, g2, g3, g4, g5, g6, g7⟩ := h3 hst v B O hv hwv
    exact ⟨Cs, e, fz, by rw [hk v _ hv hst]; exact g1, g2, g3, g4, fun i hi => (g5 i hi).mono hE, g6, g7⟩
  | map es =>
    obtain ⟨B, M, clock, g1, g2, g3, g4⟩ := h
    exact ⟨B, M, clock, by rw [hφ]; exact g1, by rw [hk 0 _ g1 trivial]; exact g2, g3, fun i hi => ⟨(g4 i hi).1.mono hE, (g4 i hi).2.mono hE⟩⟩
  | iter s pos =>
    obtain ⟨B, g1, g2⟩ := h
    exact ⟨B, by rw [hφ]; exact g1, by rw [hk 0 _ g1 trivial]; exact g2⟩
  | miter m =>
    obtain ⟨B, M, since, clk, g1, g2, g3⟩ := h
    exact ⟨B, M, since, clk, by rw [hφ]; exact g1, hE.mono _ _ _ g2, by rw [hk 0 _ g1 trivial]; exact g3⟩
  | loop st pd T ps as bd =>
    obtain ⟨B, r, g1, g2, g3, g4, g5, g6⟩ := h
    exact ⟨B, r, by rw [hφ]; exact g1, by rw [hk 0 _ g1 trivial]; exact g2, g3, g4, g5.mono hE, g6⟩
theorem Ext.draw (φ : Loc) (W : World) : Ext φ φ W (drawW W) :=
 ⟨Nat.le_refl _, fun _ _ _ h => h, fun _ _ _ h => .inl h, fun _ _ _ => rfl, fun _ Cs _ fz h => ⟨Cs, fz, h, rfl⟩, fun _ r h => ⟨r, h⟩, rfl, rfl⟩
theorem HRel.mono (hE : Ext φ φ W W') (h : HRel C φ N H W) (hk : ∀ B, mutB φ B → W'.heap[B]? = W.heap[B]?) : HRel C φ N H W' where
 blk b k hb := BRel.other hE (fun _ => rfl) (h.blk b k hb) fun v x hx _ => hk x.1 ⟨b, v, x.2, hx⟩
 dom b v x hx := ⟨(h.dom b v x hx).1, Nat.lt_of_lt_of_le (h.dom b v x hx).2 hE.size⟩
 inj := h.inj
 nN := h.nN
 nS B hB := Nat.lt_of_lt_of_le (h.nS B hB) hE.size
 gl g v hg := (h.gl g v hg).mono hE
theorem HRel.draw (h : HRel C φ N H W) : HRel C φ N H (drawW W) := h.mono (Ext.draw φ W) fun _ _ => rfl
theorem Ext.setBlk {B : Nat} {o : Obj} (hB : B < W.heap.size) (hm : mutB φ B) (hl : ∀ r, W.heap[B]? = some (Obj.loop r) → ∃ r', o = Obj.loop r')
    (hs : ∀ (Cs : Array Value) (e : TypeId) (fz : Nat × Nat), W.heap[B]? = some (Obj.cells Cs e fz) → ∃ (Cs' : Array Value) (fz' : Nat × Nat), o = Obj.cells Cs' e fz' ∧ Cs'.size = Cs.size) :
    Ext φ φ W (AE.setBlk W B o) where
  size := by rw [setBlk_size]; exact Nat.le_refl _
  mono _ _ _ h := h
  fresh _ _ _ h := .inl h
  keep B' _ hm' := setBlk_other fun e => hm' (e ▸ hm)
  shape B' Cs e fz h := by
    by_cases e' : B' = B
    · subst e'
      obtain ⟨Cs', fz', rfl, h2⟩ := hs Cs e fz h
      exact ⟨Cs', fz', setBlk_same hB, h2⟩
    · exact ⟨Cs, fz, by rw [setBlk_other e']; exact h, rfl⟩
  loops B' r h := by
    by_cases e' : B' = B
    · subst e'
      obtain ⟨r', rfl⟩ := hl r h
      exact ⟨r', setBlk_same hB⟩
    · exact ⟨r, by rw [setBlk_other e']; exact h⟩
  os := rfl
  output := rfl
theorem aliveAt_set {b b' : Nat} {k : ABlk} (h : b' ≠ b) : aliveAt (H.set b k) b' ↔ aliveAt H b' := by
 simp [aliveAt, Ne.symm h]
theorem HRel.put {b v B O : Nat} {k0 k : ABlk} {o : Obj} (h : HRel C φ N H W) (hb : H[b]? = some k0) (hal : aliveAt H b) (hφ : φ b v = some (B, O)) (hE : Ext φ φ W (AE.setBlk W B o))
    (hk : BRel C φ N (AE.setBlk W B o) b k) : HRel C φ N (H.set b k) (AE.setBlk W B o) where
  blk b' k' hb' := by
    have hlt : b < H.length := by
      rcases Nat.lt_or_ge b H.length with h1 | h1
      · exact h1
      · simp [List.getElem?_eq_none h1] at hb
    by_cases e : b' = b
    · subst e
      simp [hlt] at hb'
      subst hb'; exact hk
    · rw [List.getElem?_set_ne (Ne.symm e)] at hb'
      refine BRel.other hE (fun _ => rfl) (h.blk b' k' hb') fun v' x hx hal' => setBlk_other fun e' => ?_
      have hal2 : aliveAt H b' := by
        simp only [aliveAt, hb']
        cases k' <;> first | exact hal' | trivial
      exact h.inj b' v' b v x _ hx hφ e hal2 hal e'
  dom b' v' x hx := by
    have := h.dom b' v' x hx
    simpa [setBlk_size] using this
  inj b1 v1 b2 v2 x1 x2 h1 h2 hne a1 a2 := by
    have hal' : ∀ c, aliveAt (H.set b k) c → aliveAt H c := by
      intro c hc
      by_cases e : c = b
      · subst e; exact hal
      · exact (aliveAt_set e).1 hc
    exact h.inj b1 v1 b2 v2 x1 x2 h1 h2 hne (hal' _ a1) (hal' _ a2)
  nN := h.nN
  nS B' hB' := by rw [setBlk_size]; exact h.nS B' hB'
  gl g u hg := (h.gl g u hg).mono hE
def Loc.add (φ : Loc) (b v B O : Nat) : Loc := fun b' v' => if b' = b ∧ v' = v then some (B, O) else φ b' v'
theorem Loc.add_same (φ : Loc) (b v B O : Nat) : φ.add b v B O b v = some (B, O) := by simp [Loc.add]
theorem Loc.add_other {φ : Loc} {b v B O b' v' : Nat} (h : ¬ (b' = b ∧ v' = v)) : φ.add b v B O b' v' = φ b' v' := by simp [Loc.add, h]
theorem Ext.push {b v : Nat} (hn : φ b v = none) (o : Obj) : Ext φ (φ.add b v W.heap.size 0) W (pushBlk W o) where
 size := by rw [pushBlk_size]; omega
 mono b' v' x h := by
  rw [Loc.add_other]
  ·exact h
  ·rintro ⟨rfl, rfl⟩; rw [hn] at h; simp at h
 fresh b' v' x h := by
  by_cases e : b' = b ∧ v' = v
  ·obtain ⟨rfl, rfl⟩ := e
   rw [Loc.add_same] at h
   simp at h; subst h; exact .inr (.inl (Nat.le_refl _))
  ·rw [Loc.add_other e] at h; exact .inl h
 keep B hB _ := pushBlk_old hB
 shape B Cs e fz h := ⟨Cs, fz, by rw [pushBlk_old (lt_of_heap h)]; exact h, rfl⟩
 loops B r h := ⟨r, by rw [pushBlk_old (lt_of_heap h)]; exact h⟩
 os := rfl
 output := rfl
theorem Ext.push0 (φ : Loc) (W : World) (o : Obj) : Ext φ φ W (pushBlk W o) where
 size := by rw [pushBlk_size]; omega
 mono _ _ _ h := h
 fresh _ _ _ h := .inl h
 keep B hB _ := pushBlk_old hB
 shape B Cs e fz h := ⟨Cs, fz, by rw [pushBlk_old (lt_of_heap h)]; exact h, rfl⟩
 loops B r h := ⟨r, by rw [pushBlk_old (lt_of_heap h)]; exact h⟩
 os := rfl
 output := rfl
theorem HRel.push0 (h : HRel C φ N H W) (o : Obj) : HRel C φ N H (pushBlk W o) :=
 h.mono (Ext.push0 φ W o) fun _ ⟨b, v, _, hx⟩ => pushBlk_old (h.dom b v _ hx).2
theorem HRel.noLoc (h : HRel C φ N H W) {b v : Nat} (hb : H.length ≤ b) : φ b v = none := by
 cases e : φ b v with
 | none => rfl
 | some x => have := (h.dom b v x e).1; omega
theorem HRel.push {v : Nat} {k : ABlk} {o : Obj} (h : HRel C φ N H W) (hk : BRel C (φ.add H.length v W.heap.size 0) N (pushBlk W o) H.length k) :
  HRel C (φ.add H.length v W.heap.size 0) N (H ++ [k]) (pushBlk W o) := by
 have hn : φ H.length v = none := h.noLoc (Nat.le_refl _)
 have hE : Ext φ (φ.add H.length v W.heap.size 0) W (pushBlk W o) := Ext.push hn o
 refine ⟨fun b' k' hb' => ?_, fun b' v' x hx => ?_, fun b1 v1 b2 v2 x1 x2 h1 h2 hne a1 a2 => ?_, fun B hB => ?_, fun B hB => ?_, fun g u hg => (h.gl g u hg).mono hE⟩
 ·by_cases e : b' < H.length
  ·rw [List.getElem?_append_left e] at hb'
   refine BRel.other hE (fun v' => Loc.add_other (by omega)) (h.blk b' k' hb') fun v' x hx _ => pushBlk_old (h.dom b' v' x hx).2
  ·have : b' = H.length := by
    rcases Nat.lt_or_ge b' (H.length + 1) with h1 | h1
    ·omega
    ·rw [List.getElem?_eq_none (by simp; omega)] at hb'; simp at hb'
   subst this
   simp at hb'; subst hb'; exact hk
 ·by_cases e : b' = H.length ∧ v' = v
  ·obtain ⟨rfl, rfl⟩ := e
   rw [Loc.add_same] at hx; simp at hx; subst hx
   simp [pushBlk_size]
  ·rw [Loc.add_other e] at hx
   have := h.dom b' v' x hx
   simp [pushBlk_size]; omega
 ·have hal : ∀ c, c < H.length → aliveAt (H ++ [k]) c → aliveAt H c := by
   intro c hc ha
   simpa [aliveAt, List.getElem?_append_left hc] using ha
  by_cases e1 : b1 = H.length ∧ v1 = v
  ·obtain ⟨rfl, rfl⟩ := e1
   rw [Loc.add_same] at h1; simp at h1; subst h1
   rw [Loc.add_other (by omega)] at h2
   have := (h.dom _ _ _ h2).2
   simp; omega
  ·rw [Loc.add_other e1] at h1
   by_cases e2 : b2 = H.length ∧ v2 = v
   ·obtain ⟨rfl, rfl⟩ := e2
    rw [Loc.add_same] at h2; simp at h2; subst h2
    have := (h.dom _ _ _ h1).2
    simp; omega
   ·rw [Loc.add_other e2] at h2
    exact h.inj b1 v1 b2 v2 x1 x2 h1 h2 hne (hal _ (h.dom _ _ _ h1).1 a1) (hal _ (h.dom _ _ _ h2).1 a2)
 ·intro hN
  obtain ⟨b', v', o', hx⟩ := hB
  by_cases e : b' = H.length ∧ v' = v
  ·obtain ⟨rfl, rfl⟩ := e
   rw [Loc.add_same] at hx; simp at hx
   obtain ⟨rfl, rfl⟩ := hx
   exact absurd (h.nS _ hN) (Nat.lt_irrefl _)
  ·rw [Loc.add_other e] at hx
   exact h.nN B ⟨b', v', o', hx⟩ hN
 ·have := h.nS B hB
  rw [pushBlk_size]; omega
theorem BRel.new {cs : List AV} {xs : List Value} {rest : Array Value} {tag : Nat} {e : TypeId} (h : HRel C φ N H W) (hl : LRel C φ N W cs xs) (ho : rowOk cs)
    (ht : tagA C.P e = tag) {fz : Nat × Nat} (hfz : fz.2 ≤ fz.1 ∨ xs.length + rest.size ≤ fz.1) {wv : Nat} (hwv : wv ≤ cs.length) :
    BRel C (φ.add H.length cs.length W.heap.size 0) N (pushBlk W (.cells (xs.toArray ++ rest) e fz)) H.length (.cells cs tag wv 0) := by
  have hn : ∀ v, φ H.length v = none := fun v => h.noLoc (Nat.le_refl _)
  have hE := Ext.push (W := W) (hn cs.length) (.cells (xs.toArray ++ rest) e fz)
  have hloc : ∀ v x, φ.add H.length cs.length W.heap.size 0 H.length v = some x → v = cs.length ∧ x = (W.heap.size, 0) := by
    intro v x hx
    by_cases e : v = cs.length
    · subst e; rw [Loc.add_same] at hx; simp at hx; exact ⟨rfl, hx.symm⟩
    · rw [Loc.add_other (by omega), hn] at hx; simp at hx
  refine ⟨hwv, fun v x hx => ⟨by have := (hloc v x hx).1; omega, fun v' x' hx' _ => by rw [(hloc v x hx).2, (hloc v' x' hx').2]⟩, ⟨_, Loc.add_same ..⟩, fun _ v B O hx _ => ?_⟩
  · by_cases e' : v = cs.length
    · subst e'
      rw [Loc.add_same] at hx
      simp at hx
      obtain ⟨rfl, rfl⟩ := hx
      refine ⟨_, e, fz, pushBlk_new, by simp [hl.1], fun _ => rfl, ht, fun i hi => ?_, ho, fun _ _ => by simpa using hfz⟩
      have hi' : i < xs.length := hl.1 ▸ hi
      have := (hl.2 i hi).mono hE
      have e2 : (xs.toArray ++ rest).getD (0 + i) undef = xs.getD i undef := by
        have hi2 : i < (xs.toArray ++ rest).size := by simp; omega
        simp only [Nat.zero_add, Array.getD, hi2, dif_pos, List.getD_eq_getElem?_getD]
        have e3 := Array.getElem_append_left (xs := xs.toArray) (ys := rest) (i := i) (h := hi2) (by simpa using hi')
        simp only [Array.getInternal_eq_getElem]
        rw [e3]
        simp [hi']
      rw [e2]; exact this
    · rw [Loc.add_other (by omega), hn] at hx; simp at hx
end Go.AE
