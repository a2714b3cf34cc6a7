import GoSem.Extern.BytealgCount
import Derived.Orders
import Derived.Laws.World
import Derived.Laws.Tables
import Derived.Laws.BytesString
import Derived.Laws.Append
import Derived.Test.YtmapfhhdmgmnpaaGreatK01
namespace Go.Ev
def pureRun {α : Type} (P : Program) : Sem α → Option α
  | .pure a => some a
  | .program k => pureRun P (k P)
  | .mark _ k => pureRun P k
  | .load _ _ _ => none
  | .store _ _ _ _ => none
  | .new _ _ => none
  | .shape _ _ => none
  | .freeze _ _ _ => none
  | .frozen _ _ => none
  | .getObj _ _ => none
  | .setObj _ _ _ => none
  | .choose _ _ => none
  | .sys _ _ => none
  | .halt _ => none
def opk : Operand → Bool
  | .const v => bare v
  | .global _ => false
  | _ => true
def ev (tm : Trie Value) : Operand → Value
  | .tmp t => tget tm t
  | .const v => v
  | .func f => .func (.func f) #[] #[]
  | .global _ => undef
def opsL : Op → List Operand
  | .alloc _ | .ready _ | .waits _ => []
  | .move x | .assign x | .box _ x | .load _ x | .nilCheck x | .unOp _ _ x | .convert _ _ x | .sliceToArrayPointer _ x | .makeInterface _ x
  | .makeChan _ x | .fieldAddr _ x _ | .field _ x _ | .range _ x | .next x _ | .entry x | .typeAssert x _ _ _ | .extract x _ | .panic x | .recv _ x _ => [x]
  | .pick c a b => [c, a, b]
  | .build _ ps | .buildSlice _ _ ps => ps.toList.map (·.2)
  | .store _ a v | .binOp _ _ a v _ | .makeSlice _ a v | .indexAddr _ a v | .index _ a v | .lookup _ a v _ | .mapEntry _ a v | .send a v => [a, v]
  | .makeFunc _ first captured => first.toList ++ captured.toList
  | .makeMap _ r => r.toList
  | .slice _ x l h m => x :: (l.toList ++ h.toList ++ m.toList)
  | .mapUpdate _ m k v | .entryStore _ m k v | .insert _ m k v => [m, k, v]
  | .call c | .go c | .defer c => (match c.callee with | .value f => [f] | .invoke r _ => [r] | .builtin _ => []) ++ c.args.toList
  | .select _ _ => []
def cellv : Value → Bool
  | .agg _ | .tuple _ => false
  | _ => true
def isag (P : Program) (t : TypeId) : Option Bool :=
  match P.underlying t with
  | some (.struct _) | some (.array _ _) => some true
  | some _ => some false
  | none => none
def szof (P : Program) (t : TypeId) : Option Nat := (P.info? t).map (·.size)
def cellsAt (A : AS) (n off k : Nat) : Option (List Value) :=
  match A.h.get n with
  | some (.cells cs _ _) | some (.grown cs _ _) => if off + k ≤ cs.length then some ((cs.drop off).take k) else none
  | _ => none
def splice (cs : List Value) (off : Nat) (vs : List Value) : List Value := cs.take off ++ vs ++ cs.drop (off + vs.length)
def setCells (A : AS) (n off : Nat) (vs : List Value) : Option AS :=
  if vs.all cellv then
    match A.h.get n with
    | some (.cells cs e fz) => if off + vs.length ≤ cs.length ∧ fz = (0, 0) then some (A.set n (.cells (splice cs off vs) e fz)) else none
    | some (.grown cs e s) => if off + vs.length ≤ cs.length then some (A.set n (.grown (splice cs off vs) e s)) else none
    | _ => none
  else none
def addr : Value → Option Addr
  | .pointer (some a) => if a.spot = none then some a else none
  | _ => none
def nat? : Value → Option Nat
  | .int _ (.ofNat n) => some n
  | _ => none
def rowOf : Value → Option (Nat × List Value)
  | .func (.yield l) ⟨cs⟩ ⟨[.int .i64 (.ofNat n)]⟩ => if l = rowN then some (n, cs) else none
  | _ => none
def ptrOf : Value → Option (Nat × List Value)
  | .func (.yield l) ⟨cs⟩ ⟨[.int .i64 (.ofNat n)]⟩ => if l = ptrN then some (n, cs) else none
  | _ => none
def part (cs : List Value) (off k : Nat) : Option (List Value) := if off + k ≤ cs.length then some ((cs.drop off).take k) else none
def cellsFrom (A : AS) (p : Value) (k : Nat) : Option (List Value) :=
  match addr p with
  | some a => cellsAt A a.block a.off k
  | none => match ptrOf p with
    | some (off, cs) => part cs off k
    | none => none
def sliceCells (A : AS) (x : Value) (k : Nat) : Option (List Value) :=
  match x with
  | .slice (some a) _ _ => if k = 0 then some [] else if a.spot = none then cellsAt A a.block a.off k else none
  | .slice none _ _ => if k = 0 then some [] else none
  | _ => match rowOf x with
    | some (_, cs) => part cs 0 k
    | none => none
def sliceLen (x : Value) : Option Nat :=
  match x with
  | .slice _ n _ => some n
  | _ => match rowOf x with
    | some (n, _) => some n
    | none => none
def one? (l : Option (List Value)) : Option Value :=
  match l with
  | some [v] => some v
  | _ => none
def aggOf (l : Option (List Value)) : Option Value :=
  match l with
  | some cs => some (.agg cs.toArray)
  | none => none
def aload (P : Program) (A : AS) (t : TypeId) (p : Value) : Option Value :=
  match isag P t with
  | some true => match szof P t with
    | some k => aggOf (cellsFrom A p k)
    | none => none
  | some false => one? (cellsFrom A p 1)
  | none => none
def astore (P : Program) (A : AS) (t : TypeId) (p v : Value) : Option AS :=
  match addr p, szof P t with
  | some a, some k => if v.cells.size = k then setCells A a.block a.off v.cells.toList else none
  | _, _ => none
def room (A : AS) : Bool := Nat.blt (A.next + 2) 16777216 && !A.pend.contains A.next
def anew (A : AS) (ab : AB) : Option (Nat × AS) := if room A then some (A.next, A.put ab) else none
def ptr (n : Nat) : Value := .pointer (some ⟨n, 0, none⟩)
def abox (A : AS) (elem : TypeId) (v : Value) : Option (Value × AS) :=
  match anew A (.cells v.cells.toList elem (0, 0)) with
  | some (n, A') => some (ptr n, A')
  | none => none
def aggA (cs : Option (Array Value)) : Option Value :=
  match cs with
  | some cs => some (.agg cs)
  | none => none
def buildAs (P : Program) (d : TypeDesc) (zc : Array Value) (parts : List (Nat × Value)) : Option Value :=
  match d with
  | .struct fields => match fields.toList.mapM (fun f => (P.info? f.type).map fun i => (f.offset, i.size)) with
    | some places => aggA (Instr.fill (places[·]?) zc parts)
    | none => none
  | .array _ elem => match szof P elem with
    | some s => aggA (Instr.fill (fun i => some (i * s, s)) zc parts)
    | none => none
  | _ => none
def zeroOf (P : Program) (t : TypeId) : Option Value :=
  match P.info? t with
  | some i => match i.zero with
    | some z => if bare z then some z else none
    | none => none
  | none => none
def aalloc (P : Program) (A : AS) (elem : TypeId) : Option (Value × AS) :=
  match zeroOf P elem with
  | some z => abox A elem z
  | none => none
def abuild (P : Program) (t : TypeId) (parts : List (Nat × Value)) : Option Value :=
  match zeroOf P t, P.underlying t with
  | some z, some d => buildAs P d z.cells parts
  | _, _ => none
def abuildSlice (P : Program) (A : AS) (t : TypeId) (len : Nat) (parts : List (Nat × Value)) : Option (Value × AS) :=
  match P.underlying t with
  | some (.slice elem) => match szof P elem, zeroOf P elem with
    | some s, some z =>
      if len * s > 2 ^ 24 ∨ big ≤ len then none else
      match Instr.fill (fun i => some (i * s, s)) ((Array.range (len * s)).map ((if len * s = 0 then #[] else z.cells)[· % (if len * s = 0 then #[] else z.cells).size]!)) parts with
      | some cells => match anew A (.cells cells.toList elem (0, 0)) with
        | some (n, A') => some (.slice (some ⟨n, 0, none⟩) len len, A')
        | none => none
      | none => none
    | _, _ => none
  | _ => none
def optNat (x : Option Value) (d : Nat) : Option Nat :=
  match x with
  | some v => nat? v
  | none => some d
def optMax (x : Option Value) : Option (Option Nat) :=
  match x with
  | some v => (nat? v).map some
  | none => some none
def aslice (a : Addr) (size len cap : Nat) (lo hi mx : Option Value) : Option Value :=
  if a.spot ≠ none then none else
  let known := if cap < big then cap else cap - big
  match optNat lo 0, optMax mx with
  | some l, some (some m) =>
    match hi with
    | some v => match nat? v with
      | some h => if l ≤ h ∧ h ≤ m ∧ m ≤ known ∧ m < big then some (.slice (some (if m = l then a else a.add (l * size))) (h - l) (m - l)) else none
      | none => none
    | none => none
  | some l, some none =>
    match optNat hi len with
    | some h =>
      if l ≤ h ∧ h ≤ known then
        if cap < big then some (.slice (some (if cap = l then a else a.add (l * size))) (h - l) (cap - l))
        else if l = 0 ∨ l < known then some (.slice (some (a.add (l * size))) (h - l) (cap - l)) else some (frow 0 [])
      else none
    | none => none
  | _, _ => none
def frSlice (n : Nat) (cs : List Value) (size : Nat) (lo hi mx : Option Value) : Option Value :=
  match mx with
  | some _ => none
  | none => match optNat lo 0, optNat hi n with
    | some l, some h => if l ≤ h ∧ h ≤ n then (part cs (l * size) ((h - l) * size)).map (frow (h - l)) else none
    | _, _ => none
def asliceAt (P : Program) (t : TypeId) (x : Value) (lo hi mx : Option Value) : Option Value :=
  match P.underlying t with
  | some (.array n elem) => match addr x, szof P elem with
    | some a, some s => if n < big then aslice a s n n lo hi mx else none
    | _, _ => none
  | some (.pointer arr) => match addr x, P.underlying arr with
    | some a, some (.array n elem) => match szof P elem with
      | some s => if n < big then aslice a s n n lo hi mx else none
      | none => none
    | _, _ => none
  | some (.slice elem) => match szof P elem with
    | some s => match x with
      | .slice (some a) len cap => aslice a s len cap lo hi mx
      | x => match rowOf x with
        | some (n, cs) => frSlice n cs s lo hi mx
        | none => none
    | none => none
  | _ => none
def ptrAdd (x : Value) (k : Nat) : Option Value :=
  match addr x with
  | some a => some (.pointer (some (a.add k)))
  | none => match ptrOf x with
    | some (off, cs) => some (fptr (off + k) cs)
    | none => none
def aindexAt (P : Program) (t : TypeId) (x ix : Value) : Option Value :=
  match nat? ix, P.underlying t with
  | some i, some (.array len elem) => match szof P elem with
    | some s => if i < len then ptrAdd x (i * s) else none
    | none => none
  | some i, some (.slice elem) => match szof P elem with
    | some s => match x with
      | .slice (some a) len _ => if a.spot = none ∧ i < len then some (.pointer (some (a.add (i * s)))) else none
      | x => match rowOf x with
        | some (n, cs) => if i < n then some (fptr (i * s) cs) else none
        | none => none
    | none => none
  | _, _ => none
def afieldAt (P : Program) (t : TypeId) (x : Value) (f : Nat) : Option Value :=
  match P.underlying t with
  | some (.struct fields) => match fields[f]? with
    | some f => match szof P f.type with
      | some s => if s = 0 then none else ptrAdd x f.offset
      | none => none
    | none => none
  | _ => none
def apart (P : Program) (t : TypeId) (cs : Array Value) (off : Nat) : Option Value :=
  match isag P t with
  | some true => match szof P t with
    | some s => some (.agg (cs.extract off (off + s)))
    | none => none
  | some false => cs[off]?
  | none => none
def afield (P : Program) (t : TypeId) (x : Value) (f : Nat) : Option Value :=
  match P.underlying t, x with
  | some (.struct fields), .agg cs => match fields[f]? with
    | some f => apart P f.type cs f.offset
    | none => none
  | _, _ => none
def aindex (P : Program) (t : TypeId) (x ix : Value) : Option Value :=
  match P.underlying t, x, nat? ix with
  | some (.array len elem), .agg cs, some i => match szof P elem with
    | some s => if i < len then apart P elem cs (i * s) else none
    | none => none
  | _, _, _ => none
def newCells (P : Program) (A : AS) (elem : TypeId) (size : Nat) (zeros : Bool) (x : Value) : Option (List Value × Nat) :=
  if zeros then
    match nat? x, zeroOf P elem with
    | some n, some z => if n > 16777216 then none else if n * size = 0 then some ([], n) else some ((Builtin.zeroCells z.cells n).toList, n)
    | _, _ => none
  else match x with
    | .string s => some (s.data.toList.map fun b => .int .u8 b.toNat, s.size)
    | x => match sliceLen x with
      | some n => (match sliceCells A x (n * size) with
        | some cs => some (cs, n)
        | none => none)
      | none => none
def isZeros (P : Program) (x : Option TypeId) : Option Bool :=
  match x with
  | some xType => (match P.underlying xType with | some (.int _) => some true | some _ => some false | none => none)
  | none => none
def appendNew (A : AS) (elem : TypeId) (size : Nat) (s : Value) (new : List Value) (need : Nat) : Option (Value × AS) :=
  if need = 0 then some (s, A)
  else match anew A (.grown new elem size) with
    | some (b, A') => some (.slice (some ⟨b, 0, none⟩) need (big + need), A')
    | none => none
def appendAt (A : AS) (a : Addr) (elem : TypeId) (size sLen sCap : Nat) (new : List Value) (need : Nat) : Option (Value × AS) :=
  if a.spot ≠ none then none else
  if need ≤ (if sCap < big then sCap else sCap - big) then
    match setCells A a.block (a.off + sLen * size) new with
    | some A' => some (.slice (some a) need sCap, A')
    | none => none
  else match cellsAt A a.block a.off (sLen * size) with
    | none => none
    | some old =>
      if sCap < big then
        match anew A (.grown (old ++ new) elem size) with
        | some (b, A') => some (.slice (some ⟨b, 0, none⟩) need (big + need), A')
        | none => none
      else if a.off ≠ 0 then none
      else match A.h.get a.block with
        | some (.grown cs e' s') =>
          if e' = elem ∧ s' = size ∧ (sCap - big) * size = cs.length ∧ old.all cellv = true ∧ new.all cellv = true then
            match anew (A.set a.block .dead) (.grown (old ++ new) elem size) with
            | some (b, A') => some (.slice (some ⟨b, 0, none⟩) need (big + need), A')
            | none => none
          else none
        | _ => none
def append1 (P : Program) (A : AS) (elem : TypeId) (zeros : Bool) (s x : Value) : Option (Value × AS) :=
  match P.info? elem, zeroOf P elem, s with
  | some i, some z, .slice base sLen sCap =>
      if z.cells.toList.length = i.size then
        match newCells P A elem i.size zeros x with
        | some (new, n) =>
          if sLen + n > 16777216 ∨ i.bytes > 4096 ∨ i.size = 0 ∨ new.length ≠ n * i.size then none
          else match base with
            | none => if sLen ≠ 0 ∨ sCap ≠ 0 then none else appendNew A elem i.size s new n
            | some a => appendAt A a elem i.size sLen sCap new (sLen + n)
        | none => none
      else none
  | _, _, _ => none
def aappend (P : Program) (A : AS) (argTypes : Array TypeId) (args : List Value) : Option (Value × AS) :=
  match argTypes[0]?, args with
  | some sType, [s, x] => match P.underlying sType, isZeros P argTypes[1]? with
    | some (.slice elem), some zeros => append1 P A elem zeros s x
    | _, _ => none
  | _, _ => none
def acopy (P : Program) (A : AS) (argTypes : Array TypeId) (args : List Value) : Option (Value × AS) :=
  match argTypes[0]?, args with
  | some dType, [.slice (some a) dLen _, src] => match P.underlying dType, sliceLen src with
    | some (.slice elem), some len => match szof P elem with
      | some s => if a.spot ≠ none then none else
        match sliceCells A src (Nat.min len dLen * s) with
        | some cells => match setCells A a.block a.off cells with
          | some A' => some (goInt (Nat.min len dLen), A')
          | none => none
        | none => none
      | none => none
    | _, _ => none
  | _, _ => none
def keyKind (d : TypeDesc) : Bool :=
  match d with
  | .int _ => true
  | .string => true
  | _ => false
def mapAt (A : AS) (x : Value) : Option (Nat × List MapEntry × Nat) :=
  match x with
  | .map (some r) => match A.h.get r with
    | some (.map es clock) => some (r, es, clock)
    | _ => none
  | _ => none
def found (P : Program) (elem : TypeId) (r : Option (Option (Nat × Value))) : Option (Value × Bool) :=
  match r with
  | some (some (_, v)) => some (v, true)
  | some none => match zeroOf P elem with
    | some z => some (z, false)
    | none => none
  | none => none
def alookup (P : Program) (A : AS) (t : TypeId) (x ix : Value) (ok : Bool) : Option Value :=
  match P.underlying t, mapAt A x with
  | some (.map key elem), some (_, es, _) => match P.underlying key with
    | some kd => if keyKind kd = true ∧ bare ix = true ∧ (es.all fun e => bare e.key) = true then
        match found P elem (Instr.findNow kd ix es 0) with
        | some (v, b) => some (if ok then .tuple #[v, .bool b] else v)
        | none => none
      else none
    | none => none
  | _, _ => none
def updOf (r : Nat) (es : List MapEntry) (clock : Nat) (key val : Value) (A : AS) (f : Option (Option (Nat × Value))) : Option AS :=
  match f with
  | some (some (i, _)) => match es[i]? with
    | some e => if Instr.sameBits 10000 e.key key then some (A.set r (.map (es.set i { e with key, val }) clock)) else none
    | none => none
  | some none => some (A.set r (.map (es ++ [{ key, val, born := clock }]) (clock + 1)))
  | none => none
def amapUpdate (P : Program) (A : AS) (t : TypeId) (x key val : Value) : Option AS :=
  match P.underlying t, mapAt A x with
  | some (.map kt _), some (r, es, clock) => match P.underlying kt with
    | some kd => if keyKind kd = true ∧ bare key = true ∧ (es.all fun e => bare e.key) = true then updOf r es clock key val A (Instr.findNow kd key es 0) else none
    | none => none
  | _, _ => none
def byte? (v : Value) : Option UInt8 :=
  match v with
  | .int .u8 n => some (UInt8.ofNat n.toNat)
  | _ => none
def bytesOf? (l : List Value) : Option ByteArray :=
  let r : Option (List UInt8) := l.mapM byte?
  r.map fun bs => ⟨bs.toArray⟩
def aconvert (P : Program) (A : AS) (src dst : TypeId) (x : Value) : Option Value :=
  match P.underlying src, P.underlying dst with
  | some (.slice e), some .string => match P.underlying e, sliceLen x with
    | some (.int .u8), some n => match sliceCells A x n with
      | some cs => (bytesOf? cs).map .string
      | none => none
    | _, _ => none
  | _, _ => none
def negOf : BinOp → Option Bool
  | .eql => some false
  | .neq => some true
  | _ => none
def nils (x y : Value) : Option Bool :=
  match x, y with
  | .pointer (some _), .pointer none | .pointer none, .pointer (some _) | .slice (some _) _ _, .slice none _ _ | .slice none _ _, .slice (some _) _ _
  | .map (some _), .map none | .map none, .map (some _) | .func (.func _) _ _, .nilFunc | .nilFunc, .func (.func _) _ _ | .iface _ _, .nilIface | .nilIface, .iface _ _ => some false
  | .pointer none, .pointer none | .slice none _ _, .slice none _ _ | .map none, .map none | .nilFunc, .nilFunc => some true
  | _, _ => none
def fitsNil (d : TypeDesc) (x : Value) : Bool :=
  match d, x with
  | .pointer _, .pointer _ => true
  | .slice _, .slice _ _ _ => true
  | .map _ _, .map _ => true
  | .func _ _ _, .func _ _ _ => true
  | .func _ _ _, .nilFunc => true
  | .interface _, .iface _ _ => true
  | .interface _, .nilIface => true
  | _, _ => false
def aeq (P : Program) (op : BinOp) (t : TypeId) (x y : Value) : Option Value :=
  match negOf op, nils x y, P.underlying t with
  | some neg, some b, some d => if fitsNil d x = true then some (.bool (b != neg)) else none
  | _, _, _ => none
def aeqRow (P : Program) (op : BinOp) (t : TypeId) (x y : Value) : Option Value :=
  match negOf op, rowOf x, y, P.underlying t with
  | some neg, some (n, _), .slice none _ _, some (.slice _) => if n = 0 then none else some (.bool (false != neg))
  | _, _, _, _ => none
def sameInts : List Value → List Value → Option Bool
  | [], [] => some true
  | .int j a :: l, .int k b :: m => if j = k then (sameInts l m).map fun t => decide (a = b) && t else none
  | _, _ => none
def aeqArr (P : Program) (op : BinOp) (t : TypeId) (x y : Value) : Option Value :=
  match negOf op, P.underlying t, x, y with
  | some neg, some (.array len elem), .agg a, .agg b => match P.underlying elem, szof P elem, sameInts a.toList b.toList with
    | some (.int _), some s, some r => if s = 1 ∧ a.toList.length = len ∧ b.toList.length = len then some (.bool (r != neg)) else none
    | _, _, _ => none
  | _, _, _, _ => none
def sameFields (P : Program) (a b : Array Value) : List Field → Option Bool
  | [] => some true
  | f :: fs =>
    match isag P f.type, P.underlying f.type, a[f.offset]?, b[f.offset]? with
    | some false, some d, some x, some y => match Instr.sameNow d x y, sameFields P a b fs with
      | some r, some s => if f.name ≠ "_" then some (r && s) else none
      | _, _ => none
    | _, _, _, _ => none
def aeqSt (P : Program) (op : BinOp) (t : TypeId) (x y : Value) : Option Value :=
  match negOf op, P.underlying t, x, y with
  | some neg, some (.struct fields), .agg a, .agg b => match sameFields P a b fields.toList with
    | some r => if P.stoodInHeld t = false ∧ P.eqGuardType P.depth t = false ∧ a.toList.all bare = true ∧ b.toList.all bare = true then some (.bool (r != neg)) else none
    | none => none
  | _, _, _, _ => none
def abin (P : Program) (op : BinOp) (t : TypeId) (x y : Value) : Option Value :=
  match x, y with
  | .int k a, .int k' b =>
    match op with
    | .shl | .shr => pureRun P (Op.shift op k a k' b)
    | .add | .sub | .mul => if k = k' then pureRun P (Op.intArith op k a b) else none
    | .quo | .rem => if k = k' then pureRun P (Op.intDiv op k a b) else none
    | .and | .or | .xor | .andNot => if k = k' then pureRun P (Op.intBits op k a b) else none
    | _ => if k = k' then pureRun P (Op.intCmp op a b) else none
  | .string a, .string b => pureRun P (Op.stringOp op a b)
  | .bool a, .bool b => match P.underlying t, negOf op with
    | some .bool, some neg => some (.bool ((a == b) != neg))
    | _, _ => none
  | _, _ => none
def still1 (A : AS) (v : Option Value) : Option (Value × AS) :=
  match v with
  | some v => some (v, A)
  | none => none
def done1 (A : Option AS) : Option (Value × AS) :=
  match A with
  | some A => some (undef, A)
  | none => none
def aBare (P : Program) (tm : Trie Value) (o : Oper) (A : AS) : Option (Value × AS) :=
  if (opsL o.op).all fun x => bare (ev tm x) then
    match pureRun P (execOp (ev tm) o) with
    | some (.value v) => if bare v then some (v, A) else none
    | _ => none
  else none
def orBare (P : Program) (tm : Trie Value) (o : Oper) (A : AS) (v : Option Value) : Option (Value × AS) :=
  match v with
  | some v => some (v, A)
  | none => aBare P tm o A
def aPick (c a b : Value) (A : AS) : Option (Value × AS) :=
  match c with
  | .bool c => some (if c then a else b, A)
  | _ => none
def aNil (x : Value) (A : AS) : Option (Value × AS) :=
  match x with
  | .pointer (some a) => some (.pointer (some a), A)
  | .func (.func f) a b => some (.func (.func f) a b, A)
  | x => match ptrOf x with
    | some _ => some (x, A)
    | none => none
def aExtract (x : Value) (ix : Nat) (A : AS) : Option (Value × AS) :=
  match x with
  | .tuple vs => still1 A vs.toList[ix]?
  | _ => none
def aFunc (tm : Trie Value) (fn : Fn) (first captured : Array Operand) (A : AS) : Option (Value × AS) :=
  match fn with
  | .func f => some (.func (.func f) (first.toList.map (ev tm)).toArray (captured.toList.map (ev tm)).toArray, A)
  | _ => none
def aMap (r : Option Operand) (A : AS) : Option (Value × AS) :=
  match r with
  | none => (match anew A (.map [] 0) with
    | some (n, A') => some (.map (some n), A')
    | none => none)
  | some _ => none
def aBin (P : Program) (op : BinOp) (t : TypeId) (x y : Value) : Option Value :=
  match abin P op t x y with
  | some v => if bare v then some v else none
  | none => match aeq P op t x y with
    | some v => some v
    | none => match aeqArr P op t x y with
      | some v => some v
      | none => match aeqRow P op t x y with
        | some v => some v
        | none => aeqSt P op t x y
def aIface (P : Program) (t : TypeId) (x : Value) (A : AS) : Option (Value × AS) :=
  match P.underlying t with
  | some (.interface _) => none
  | some _ => some (.iface t x, A)
  | none => none
def aLen (P : Program) (argTypes : Array TypeId) (args : List Value) : Option Value :=
  match argTypes.toList, args with
  | t :: _, .string s :: _ => (match P.underlying t with | some .string => some (goInt s.size) | _ => none)
  | t :: _, x :: _ => (match P.underlying t, sliceLen x with | some (.slice _), some n => some (goInt n) | _, _ => none)
  | _, _ => none
def aCap (P : Program) (argTypes : Array TypeId) (args : List Value) : Option Value :=
  match argTypes.toList, args with
  | t :: _, .slice _ _ n :: _ => (match P.underlying t with | some (.slice _) => if n < big then some (goInt n) else none | _ => none)
  | _, _ => none
def aBuiltin (P : Program) (tm : Trie Value) (o : Oper) (b : Builtin) (c : Call) (A : AS) : Option (Value × AS) :=
  match b with
  | .append => aappend P A c.argTypes (c.args.toList.map (ev tm))
  | .copy => acopy P A c.argTypes (c.args.toList.map (ev tm))
  | .len => orBare P tm o A (aLen P c.argTypes (c.args.toList.map (ev tm)))
  | .cap => still1 A (aCap P c.argTypes (c.args.toList.map (ev tm)))
  | .max => aBare P tm o A
  | .min => aBare P tm o A
  | _ => none
def aopOf (P : Program) (tm : Trie Value) (o : Oper) (op : Op) (A : AS) : Option (Value × AS) :=
  match op with
  | .move x => some (ev tm x, A)
  | .assign x => some (ev tm x, A)
  | .pick c a b => aPick (ev tm c) (ev tm a) (ev tm b) A
  | .alloc elem => aalloc P A elem
  | .box elem x => abox A elem (ev tm x)
  | .build t parts => still1 A (abuild P t (parts.toList.map fun p => (p.1, ev tm p.2)))
  | .buildSlice t len parts => abuildSlice P A t len (parts.toList.map fun p => (p.1, ev tm p.2))
  | .load t a => still1 A (aload P A t (ev tm a))
  | .store t a x => done1 (astore P A t (ev tm a) (ev tm x))
  | .fieldAddr s x f => still1 A (afieldAt P s (ev tm x) f)
  | .indexAddr t x ix => still1 A (aindexAt P t (ev tm x) (ev tm ix))
  | .nilCheck x => aNil (ev tm x) A
  | .extract t ix => aExtract (ev tm t) ix A
  | .makeFunc fn first captured => aFunc tm fn first captured A
  | .makeMap _ r => aMap r A
  | .mapUpdate t m k x => done1 (amapUpdate P A t (ev tm m) (ev tm k) (ev tm x))
  | .binOp op t x y _ => orBare P tm o A (aBin P op t (ev tm x) (ev tm y))
  | .unOp _ _ _ => aBare P tm o A
  | .slice t x lo hi mx => orBare P tm o A (asliceAt P t (ev tm x) (lo.map (ev tm)) (hi.map (ev tm)) (mx.map (ev tm)))
  | .field t x f => still1 A (afield P t (ev tm x) f)
  | .index t x ix => orBare P tm o A (aindex P t (ev tm x) (ev tm ix))
  | .lookup t x ix ok => still1 A (alookup P A t (ev tm x) (ev tm ix) ok)
  | .convert src dst x => orBare P tm o A (aconvert P A src dst (ev tm x))
  | .makeInterface t x => aIface P t (ev tm x) A
  | .call c => (match c.callee with | .builtin b => aBuiltin P tm o b c A | _ => none)
  | _ => none
def aop (P : Program) (tm : Trie Value) (o : Oper) (A : AS) : Option (Value × AS) := aopOf P tm o o.op A
inductive Job where
  | call (f : FuncId) (args : List Value) (deferred : Bool)
  | round (l : Nat) (f : FuncId) (ns : Nat) (tm : Trie Value) (assign body : Code)
abbrev Rec := Job → AS → Option (Value × AS)
structure Cfg where
  cnt : Nat
  eight : Nat
  halved : Nat
def hv (n : Nat) : Nat := (n / 2) ^^^ (if n % 2 = 1 then 2197175160 else 0)
def h8 (n : Nat) : Nat := hv (hv (hv (hv (hv (hv (hv (hv n)))))))
def acount (A : AS) (args : List Value) : Option Value :=
  match args with
  | [.slice (some a) n _, .int .u8 c] => do
    if a.spot ≠ none then none
    let cs ← cellsAt A a.block a.off n
    let s ← bytesOf? cs
    some (goInt (s.data.toList.countP (· == UInt8.ofNat c.toNat)))
  | _ => none
def aeight (halved : Nat) (args : List Value) : Option Value :=
  match args with
  | [.func (.func h) a b, .int .u32 n] => if h = halved ∧ a.size = 0 ∧ b.size = 0 ∧ 0 ≤ n ∧ n < 4294967296 then some (.int .u32 (h8 n.toNat)) else none
  | _ => none
def putTm (ns : Nat) (tm : Trie Value) (d : Tmp) (v : Value) : Trie Value := if Nat.blt d ns then tm.set 16 d v else tm
def putAll (ns : Nat) (tm : Trie Value) : List Tmp → List Value → Trie Value
  | t :: ps, v :: vs => putAll ns (putTm ns tm t v) ps vs
  | _, _ => tm
def callee (c : Cfg) (rc : Rec) (f : Value) (args : List Value) (A : AS) : Option (Value × AS) :=
  match f with
  | .func (.func g) first cap =>
    let as := first.toList ++ args ++ cap.toList
    if g + 1 = c.cnt then (acount A as).map fun v => (v, A)
    else if g + 1 = c.eight then (aeight c.halved as).map fun v => (v, A)
    else rc (.call g as false) A
  | .func (.yield l) first cap =>
    if cap.size = 0 then
      match A.h.get l with
      | some (.loop _ _ fn ns tm ps as bd _) =>
        let args := first.toList ++ args
        if args.length = ps.toList.length then
          rc (.round l fn ns (putAll ns tm ps.toList args) as bd) A
        else none
      | _ => none
    else none
  | _ => none
def noD (r : Option (Value × AS)) : Option (Value × AS × Option Deferred) :=
  match r with
  | some (v, A) => some (v, A, none)
  | none => none
def aDefer (tm : Trie Value) (round : Bool) (c : Call) (A : AS) : Option (Value × AS × Option Deferred) :=
  if round then none else
  match c.callee with
  | .value f => match ev tm f with
    | .func (.func g) first cap => some (undef, A, some { target := .fn (.func g) cap, args := (first.toList ++ c.args.toList.map (ev tm)).toArray })
    | _ => none
  | _ => none
def isRecover : Builtin → Bool
  | .recover => true
  | _ => false
def evCall (P : Program) (c : Cfg) (rc : Rec) (round : Bool) (tm : Trie Value) (o : Oper) (cl : Call) (A : AS) : Option (Value × AS × Option Deferred) :=
  match cl.callee with
  | .value f => noD (callee c rc (ev tm f) (cl.args.toList.map (ev tm)) A)
  | .builtin b => if isRecover b then (if round then none else some (.nilIface, A, none)) else noD (aBuiltin P tm o b cl A)
  | .invoke _ _ => none
def evOp1 (P : Program) (c : Cfg) (rc : Rec) (round : Bool) (tm : Trie Value) (o : Oper) (A : AS) : Option (Value × AS × Option Deferred) :=
  match o.op with
  | .call cl => evCall P c rc round tm o cl A
  | .defer cl => aDefer tm round cl A
  | _ => noD (aop P tm o A)
def okRes (r : Option (Value × AS × Option Deferred)) : Option (Value × AS × Option Deferred) :=
  match r with
  | some (v, A', d) => if vok A'.ok v then some (v, A', d) else none
  | none => none
def evOper (P : Program) (c : Cfg) (rc : Rec) (round : Bool) (tm : Trie Value) (o : Oper) (A : AS) : Option (Value × AS × Option Deferred) :=
  if (opsL o.op).all opk then okRes (evOp1 P c rc round tm o A) else none
def wants (tm : Trie Value) (ops : List Oper) (o : Oper) : Bool :=
  match o.guard with
  | none => true
  | some (j, want) => match (ops[j]?).bind (·.dst) with
    | some d => (match tget tm d with | .bool b => b == want | _ => false)
    | none => false
def putD (ns : Nat) (tm : Trie Value) (dst : Option Tmp) (v : Value) : Trie Value :=
  match dst with
  | some d => putTm ns tm d v
  | none => tm
def evOps (P : Program) (c : Cfg) (rc : Rec) (round : Bool) (ns : Nat) (ops : List Oper) : List Oper → Trie Value → List Deferred → AS → Option (Trie Value × List Deferred × AS)
  | [], tm, ds, A => some (tm, ds, A)
  | o :: rest, tm, ds, A =>
    if wants tm ops o then
      match evOper P c rc round tm o A with
      | some (v, A', d) => evOps P c rc round ns ops rest (putD ns tm o.dst v) (d.toList ++ ds) A'
      | none => none
    else evOps P c rc round ns ops rest (putD ns tm o.dst undef) ds A
def bind (e : Edge) : Bool := Region.binds .any e
def maskOf (k : Nat) (ms : List Nat) : List Edge → Nat → Nat
  | [], s => s
  | e :: es, s => maskOf k ms es (if bind e && !s.testBit e.on then s ||| 2 ^ e.on ||| ms.getD (k - 1 - e.on) 0 else s)
inductive Kind where
  | still
  | reads
  | turns
  | news
def kindOf (o : Oper) : Kind :=
  match o.op with
  | .alloc _ => .news
  | .load .. | .lookup .. | .convert _ _ _ => .reads
  | .box .. | .buildSlice .. | .store .. | .makeMap .. | .mapUpdate .. | .defer _ => .turns
  | .call { callee := .builtin .append, .. } | .call { callee := .builtin .copy, .. } | .call { callee := .builtin .recover, .. } => .turns
  | .call { callee := .builtin _, .. } => .still
  | .call _ => .turns
  | _ => .still
def tmpOf : Operand → List Tmp
  | .tmp t => [t]
  | _ => []
def looks (ops : List Oper) (o : Oper) : List Tmp := (opsL o.op).flatMap tmpOf ++ (match o.guard with | some (j, _) => ((ops[j]?).bind (·.dst)).toList | none => [])
def sub (a m : Nat) : Bool := Nat.beq (a &&& m) a
structure Seen where
  w : Trie Nat
  r : Trie Nat
def bitsAt (t : Trie Nat) (x : Tmp) : Nat := (t.get x).getD 0
def tempsOk (s : Seen) (m : Nat) (ls : List Tmp) (dst : Option Tmp) : Bool :=
  ls.all (fun x => sub (bitsAt s.w x) m) && (match dst with | some d => sub (bitsAt s.w d) m && sub (bitsAt s.r d) m | none => true)
def addBit (t : Trie Nat) (i : Nat) (x : Tmp) : Trie Nat := t.set 16 x (bitsAt t x ||| 2 ^ i)
def seenOf (s : Seen) (i : Nat) (ls : List Tmp) (dst : Option Tmp) : Seen :=
  ⟨match dst with | some d => addBit s.w i d | none => s.w, ls.foldl (fun t x => addBit t i x) s.r⟩
def reserve (P : Program) : List Oper → AS → List (Option Nat) → Option (AS × List (Option Nat))
  | [], A, ids => some (A, ids.reverse)
  | o :: rest, A, ids =>
    match o.op with
    | .alloc t =>
      if o.guard.isNone && o.after.toList.all (fun e => !bind e) then
        match aalloc P A t with
        | some (_, A') => reserve P rest A' (some A.next :: ids)
        | none => none
      else none
    | _ => reserve P rest A (none :: ids)
def pends (m : Nat) : List (Option Nat) → Nat → List Nat
  | [], _ => []
  | some n :: rest, i => if m.testBit i then pends m rest (i + 1) else n :: pends m rest (i + 1)
  | none :: rest, i => pends m rest (i + 1)
structure DS where
  tm : Trie Value
  ms : List Nat
  sn : Seen
  hs : List AS
  ts : List Nat
  rs : List (Nat × Oper × Trie Value × Value)
mutual
def veq : Value → Value → Bool
  | .bool a, .bool b => a == b
  | .int j a, .int k b => decide (j = k) && decide (a = b)
  | .float j a, .float k b => decide (j = k) && decide (a = b)
  | .complex j a x, .complex k b y => decide (j = k) && (decide (a = b) && decide (x = y))
  | .chan a, .chan b => decide (a = b)
  | .string a, .string b => decide (a.data.toList = b.data.toList)
  | .pointer a, .pointer b => decide (a = b)
  | .slice a l c, .slice b m d => decide (a = b) && decide (l = m) && decide (c = d)
  | .map a, .map b => decide (a = b)
  | .func f x y, .func g z u => decide (f = g) && veqA x z && veqA y u
  | .nilFunc, .nilFunc => true
  | .iface t v, .iface u w => decide (t = u) && veq v w
  | .nilIface, .nilIface => true
  | .agg x, .agg y => veqA x y
  | .tuple x, .tuple y => veqA x y
  | _, _ => false
def veqA : Array Value → Array Value → Bool
  | ⟨l⟩, ⟨m⟩ => veqL l m
def veqL : List Value → List Value → Bool
  | [], [] => true
  | v :: l, w :: m => veq v w && veqL l m
  | _, _ => false
end
def still (P : Program) (pend : List Nat) (tm : Trie Value) (o : Oper) (v : Value) (A : AS) : Bool :=
  match aop P tm o { A with pend := pend } with
  | some (u, _) => veq u v
  | none => false
def dNews (ns : Nat) (ids : List (Option Nat)) (i : Nat) (o : Oper) (S : DS) : Option DS :=
  match (ids[i]?).bind id with
  | some n => some { S with tm := putD ns S.tm o.dst (ptr n) }
  | none => none
def dStill (ns : Nat) (o : Oper) (S : DS) (r : Option (Value × AS × Option Deferred)) : Option DS :=
  match r with
  | some (v, _, none) => some { S with tm := putD ns S.tm o.dst v }
  | _ => none
def dReads (P : Program) (ns : Nat) (pend : List Nat) (hs : List AS) (i m : Nat) (o : Oper) (S : DS) (r : Option (Value × AS × Option Deferred)) : Option DS :=
  match r with
  | some (v, _, none) =>
    if (hs.take (S.ts.takeWhile fun t => !m.testBit t).length).all (still P pend S.tm o v) then some { S with tm := putD ns S.tm o.dst v, rs := (i, o, S.tm, v) :: S.rs } else none
  | _ => none
def again (P : Program) (pend : List Nat) (m : Nat) (A : AS) : List (Nat × Oper × Trie Value × Value) → Bool
  | [] => true
  | (j, o, tm, u) :: rs => (m.testBit j || still P pend tm o u A) && again P pend m A rs
def dTurns (P : Program) (ns : Nat) (base : List Nat) (ids : List (Option Nat)) (i m : Nat) (o : Oper) (S : DS) (r : Option (Value × AS × Option Deferred)) : Option DS :=
  match r with
  | some (v, A', none) =>
    if again P (pends 0 ids 0 ++ base) m { A' with pend := base } S.rs then
      some { S with tm := putD ns S.tm o.dst v, hs := { A' with pend := base } :: S.hs, ts := i :: S.ts, rs := S.rs.filter fun x => !m.testBit x.1 }
    else none
  | _ => none
def turnOk (ts : List Nat) (m : Nat) : Bool :=
  match ts with
  | [] => true
  | t :: _ => m.testBit t
def dKind (P : Program) (c : Cfg) (rc : Rec) (round : Bool) (ns : Nat) (base : List Nat) (ids : List (Option Nat)) (i m : Nat) (o : Oper) (S : DS) (A : AS) (hs : List AS) : Option DS :=
  let A0 : AS := { A with pend := pends m ids 0 ++ base }
  match kindOf o with
  | .news => dNews ns ids i o S
  | .still => dStill ns o S (evOper P c rc round S.tm o A0)
  | .reads => dReads P ns (pends m ids 0 ++ base) hs i m o S (evOper P c rc round S.tm o A0)
  | .turns => if turnOk S.ts m then dTurns P ns base ids i m o S (evOper P c rc round S.tm o A0) else none
def dSkip (ns : Nat) (o : Oper) (S : DS) : Option DS :=
  match kindOf o with
  | .news => none
  | _ => some { S with tm := putD ns S.tm o.dst undef }
def dDo (P : Program) (c : Cfg) (rc : Rec) (round : Bool) (ns : Nat) (ops : List Oper) (base : List Nat) (ids : List (Option Nat)) (i m : Nat) (o : Oper) (S : DS) : Option DS :=
  match S.hs with
  | [] => none
  | A :: hs => if wants S.tm ops o then dKind P c rc round ns base ids i m o S A hs else dSkip ns o S
def dCheck (S : DS) (i m : Nat) (ls : List Tmp) (o : Oper) : Bool :=
  (opsL o.op).all opk && tempsOk S.sn m ls o.dst && o.after.toList.all (fun e => !bind e || Nat.blt e.on i)
def dSeen (i m : Nat) (ls : List Tmp) (o : Oper) (S : Option DS) : Option DS :=
  match S with
  | some S => some { S with ms := m :: S.ms, sn := seenOf S.sn i ls o.dst }
  | none => none
def drawOne (P : Program) (c : Cfg) (rc : Rec) (round : Bool) (ns : Nat) (ops : List Oper) (base : List Nat) (ids : List (Option Nat)) (i : Nat) (o : Oper) (S : DS) : Option DS :=
  let m := maskOf i S.ms o.after.toList 0
  let ls := looks ops o
  if dCheck S i m ls o then dSeen i m ls o (dDo P c rc round ns ops base ids i m o S) else none
def drawAll (P : Program) (c : Cfg) (rc : Nat → Rec) (round : Bool) (ns : Nat) (ops : List Oper) (base : List Nat) (ids : List (Option Nat)) : Nat → List Oper → DS → Option DS
  | _, [], S => some S
  | i, o :: rest, S =>
    match drawOne P c (rc i) round ns ops base ids i o S with
    | some S' => drawAll P c rc round ns ops base ids (i + 1) rest S'
    | none => none
def evDraw (P : Program) (c : Cfg) (rc : Nat → Rec) (round : Bool) (ns : Nat) (ops : List Oper) (tm : Trie Value) (A : AS) : Option (Trie Value × AS) :=
  match reserve P ops A [] with
  | some (A', ids) =>
    match drawAll P c rc round ns ops A.pend ids 0 ops { tm, ms := [], sn := ⟨.nil, .nil⟩, hs := [A'], ts := [], rs := [] } with
    | some S => match S.hs with
      | A :: _ => some (S.tm, A)
      | [] => none
    | none => none
  | none => none
def enterLoop (round : Option Nat) (fn : FuncId) (ns : Nat) (tm : Trie Value) (ps : Array Tmp) (assign body : Code) (A : AS) : Option (Nat × List Deferred × AS) :=
  match round with
  | some l => match A.h.get l with
    | some (.loop _ _ _ _ _ _ _ _ df) => do
      let (n, A') ← anew A (.loop .ready none fn ns tm ps assign body df)
      some (n, [], A')
    | _ => none
  | none => do
    let (r, A1) ← anew A (.deferred (some []))
    let (n, A2) ← anew A1 (.loop .ready none fn ns tm ps assign body r)
    some (n, [{ target := .collected r, args := #[] }], A2)
def setLoop (A : AS) (l : Nat) (f : LoopState → Option Code → LoopState × Option Code) : Option (LoopState × Option Code × AS) :=
  match A.h.get l with
  | some (.loop st p fn ns tm ps as bd df) => some (st, p, A.set l (.loop (f st p).1 (f st p).2 fn ns tm ps as bd df))
  | _ => none
inductive St where
  | go (todo : List Item) (tm : Trie Value) (ds : List Deferred) (A : AS)
  | stop (tm : Trie Value) (ds : List Deferred) (A : AS) (j : Option Code)
  | fail
def sRegion (P : Program) (c : Cfg) (rc : Rec) (round : Option Nat) (ns : Nat) (ops : List Oper) (draw : Bool) (k : List Item) (tm : Trie Value) (ds : List Deferred) (A : AS) : St :=
  if draw then
    match evDraw P c (fun _ => rc) round.isSome ns ops tm A with
    | some (tm', A') => .go k tm' ds A'
    | none => .fail
  else
    match evOps P c rc round.isSome ns ops ops tm ds A with
    | some (tm', ds', A') => .go k tm' ds' A'
    | none => .fail
def sCond (tm : Trie Value) (q : Operand) (a b : Code) (k : List Item) (ds : List Deferred) (A : AS) : St :=
  if opk q then
    match ev tm q with
    | .bool t => .go (.code (if t then a else b) :: k) tm ds A
    | _ => .fail
  else .fail
def sJump (k' : Option (List Item)) (j : Code) (tm : Trie Value) (ds : List Deferred) (A : AS) : St :=
  match k' with
  | some k' => .go k' tm ds A
  | none => .stop tm ds A (some j)
def sRange (rc : Rec) (fn : FuncId) (round : Option Nat) (ns : Nat) (g : Operand) (ps : Array Tmp) (assign body : Code) (k : List Item) (tm : Trie Value) (ds : List Deferred) (A : AS) : St :=
  if opk g then
    match enterLoop round fn ns tm ps assign body A with
    | some (l, mark, A1) => match ev tm g with
      | .func (.func h) first cap => match rc (.call h (first.toList ++ [.func (.yield l) #[] #[]] ++ cap.toList) false) A1 with
        | some (_, A2) => match setLoop A2 l (fun _ p => (.exhausted, p)) with
          | some (st, p, A3) => if st = .busy then .fail else .go ((p.map Item.code).toList ++ k) tm (mark ++ ds) A3
          | none => .fail
        | none => .fail
      | _ => .fail
    | none => .fail
  else .fail
def sBegin (round : Option Nat) (k : List Item) (tm : Trie Value) (ds : List Deferred) (A : AS) : St :=
  match round with
  | some l => match setLoop A l (fun _ p => (.busy, p)) with
    | some (st, _, A') => if st = .ready then .go k tm ds A' else .fail
    | none => .fail
  | none => .fail
def sCode (P : Program) (c : Cfg) (rc : Rec) (fn : FuncId) (round : Option Nat) (ns : Nat) (cd : Code) (k : List Item) (tm : Trie Value) (ds : List Deferred) (A : AS) : St :=
  match cd with
  | .ret => .stop tm ds A (some .ret)
  | .skip => .go k tm ds A
  | .label _ => .go k tm ds A
  | .seq a b => .go (.code a :: .code b :: k) tm ds A
  | .cond q a b => sCond tm q a b k ds A
  | .block id b => .go (.code b :: .inBlock id :: k) tm ds A
  | .loop b => .go (.code b :: .inLoop b :: k) tm ds A
  | .scope b => .go (.code b :: .inScope b :: k) tm ds A
  | .exit id => sJump (exitTo id k) (.exit id) tm ds A
  | .goto l => sJump (gotoIn l k) (.goto l) tm ds A
  | .region _ ops draw => sRegion P c rc round ns ops.toList draw k tm ds A
  | .rangeFunc g ps assign body => sRange rc fn round ns g ps assign body k tm ds A
  | .refuse _ => .fail
def sItem (P : Program) (c : Cfg) (rc : Rec) (fn : FuncId) (round : Option Nat) (ns : Nat) (it : Item) (k : List Item) (tm : Trie Value) (ds : List Deferred) (A : AS) : St :=
  match it with
  | .code cd => sCode P c rc fn round ns cd k tm ds A
  | .inBlock _ => .go k tm ds A
  | .inScope _ => .go k tm ds A
  | .inLoop b => .go (.code b :: .inLoop b :: k) tm ds A
  | .beginRound => sBegin round k tm ds A
  | _ => .fail
def sTodo (P : Program) (c : Cfg) (rc : Rec) (fn : FuncId) (round : Option Nat) (ns : Nat) (todo : List Item) (tm : Trie Value) (ds : List Deferred) (A : AS) : St :=
  match todo with
  | [] => .stop tm ds A none
  | it :: k => sItem P c rc fn round ns it k tm ds A
def runF (P : Program) (c : Cfg) (rc : Rec) (fn : FuncId) (round : Option Nat) (ns : Nat) : Nat → St → Option (Trie Value × List Deferred × AS × Option Code)
  | 0, _ => none
  | f + 1, s =>
    match s with
    | .go todo tm ds A => runF P c rc fn round ns f (sTodo P c rc fn round ns todo tm ds A)
    | .stop tm ds A j => some (tm, ds, A, j)
    | .fail => none
def unwind (rc : Rec) : List Deferred → AS → Option AS
  | [], A => some A
  | { target := .collected r, .. } :: ds, A => match A.h.get r with
    | some (.deferred (some [])) => unwind rc ds (A.set r (.deferred none))
    | _ => none
  | { target := .fn (.func g) cap, args } :: ds, A => match rc (.call g (args.toList ++ cap.toList) true) A with
    | some (_, A') => unwind rc ds A'
    | none => none
  | _ :: _, _ => none
def aresult (P : Program) (tm : Trie Value) (A : AS) : ResultVar → Option Value
  | .tmp t => some (tget tm t)
  | .cell a t => aload P A t (tget tm a)
def aresults (P : Program) (tm : Trie Value) (A : AS) : List ResultVar → Option (List Value)
  | [] => some []
  | r :: rs => match aresult P tm A r with
    | some v => (aresults P tm A rs).map (v :: ·)
    | none => none
def setArgs : List Value → Nat → Trie Value → Trie Value
  | [], _, tm => tm
  | v :: vs, i, tm => setArgs vs (i + 1) (tm.set 16 i v)
def tupleOf (vs : List Value) : Value :=
  match vs with
  | [v] => v
  | vs => .tuple vs.toArray
def okV (v : Value) (A : AS) : Option (Value × AS) := if vok A.ok v then some (v, A) else none
def endCall (P : Program) (rc : Rec) (fn : Func) (r : Option (Trie Value × List Deferred × AS × Option Code)) : Option (Value × AS) :=
  match r with
  | some (tm, ds, A1, j) => if (match j with | none => true | some .ret => true | _ => false) then
      match unwind rc ds A1 with
      | some A2 => match aresults P tm A2 fn.results.toList with
        | some vs => okV (tupleOf vs) A2
        | none => none
      | none => none
    else none
  | none => none
def endRound (l : Nat) (r : Option (Trie Value × List Deferred × AS × Option Code)) : Option (Value × AS) :=
  match r with
  | some (_, ds, A1, j) => match ds with
    | [] => match setLoop A1 l (fun _ _ => (if j.isNone then .ready else .done, j)) with
      | some (_, _, A2) => some (.bool j.isNone, A2)
      | none => none
    | _ :: _ => none
  | none => none
def doCall (P : Program) (c : Cfg) (rc : Rec) (f : FuncId) (args : List Value) (A : AS) : Option (Value × AS) :=
  match P.funcs.toList[f]? with
  | some fn => match fn.body with
    | some body =>
      if Nat.ble args.length fn.ntmps && Nat.blt fn.ntmps 65535 then endCall P rc fn (runF P c rc f none fn.ntmps 100000 (.go [.code body] (setArgs args 0 .nil) [] A)) else none
    | none => none
  | none => none
def doJob (P : Program) (c : Cfg) (rc : Rec) (job : Job) (A : AS) : Option (Value × AS) :=
  match job with
  | .call f args _ => doCall P c rc f args A
  | .round l f ns tm assign body => endRound l (runF P c rc f (some l) ns 100000 (.go [.code assign, .beginRound, .code body] tm [] A))
end Go.Ev
namespace Go.Ev
open Go
theorem pureRun_run {α : Type} {P : Program} {s : Sem α} {a : α} (h : pureRun P s = some a) (w : World) : s.run P w = .ok a w := by
  induction s with
  | pure b => simp only [pureRun, Option.some.injEq] at h; subst h; rfl
  | program k ih => simp only [pureRun] at h; exact ih P h
  | mark m k ih => simp only [pureRun] at h; exact ih h
  | _ => simp [pureRun] at h
variable {P : Program} {φ : Rn} {w : World} {A : AS}
theorem run_underlying {t : TypeId} {d : TypeDesc} (h : P.underlying t = some d) : (underlying t).run P w = .ok d w := by
  simp [underlying, h]
theorem run_typeInfo {t : TypeId} {i : TypeInfo} (h : P.info? t = some i) : (typeInfo t).run P w = .ok i w := by
  simp [typeInfo, h]
theorem run_sizeOf {t : TypeId} {k : Nat} (h : szof P t = some k) : (sizeOf t).run P w = .ok k w := by
  unfold szof at h
  obtain ⟨i, hi, rfl⟩ := Option.map_eq_some_iff.1 h
  simp [sizeOf, run_typeInfo hi]
theorem run_zeroValue {t : TypeId} {i : TypeInfo} {z : Value} (h : P.info? t = some i) (hz : i.zero = some z) : (zeroValue t).run P w = .ok z w := by
  simp [zeroValue, run_typeInfo h, hz]
theorem run_isAgg {t : TypeId} {b : Bool} (h : isag P t = some b) : (isAgg t).run P w = .ok b w := by
  unfold isag at h
  cases hu : P.underlying t with
  | none => simp [hu] at h
  | some d =>
    rw [hu] at h
    unfold isAgg
    rw [Sem.run_bind, run_underlying hu]
    cases d <;> simp at h <;> subst h <;> rfl
structure ObjRel (φ : Rn) (A : AS) (w : World) : Prop where
  obj : ∀ n ab, A.h.get n = some ab → n ∉ A.pend → ABRel φ w (φ.x n) ab w.heap[φ.b n]?
  lt : ∀ n ab, A.h.get n = some ab → n < big
theorem Rel.toObj (h : Rel φ A w) : ObjRel φ A w := ⟨h.obj, fun n ab hn => by have := h.lt n ab hn; have := h.room; unfold big; omega⟩
theorem ObjRel.of_ok (h : ObjRel φ A w) {n : Nat} {ab : AB} (hn : A.h.get n = some ab) (ho : A.ok n = true) : ABRel φ w (φ.x n) ab w.heap[φ.b n]? ∧ n ∉ A.pend := by
  rw [AS.ok_iff] at ho
  have := h.lt n ab hn
  have hp : n ∉ A.pend := by
    rcases ho with ho | ho
    · exact ho.2
    · omega
  exact ⟨h.obj n ab hn hp, hp⟩
def Cells (w : World) (a : Addr) (L : List Value) : Prop := ∀ (i : Nat) (V : Value), L[i]? = some V → w.cell? ⟨a.block, a.off + i, none⟩ = some V
theorem cell_of {b off : Nat} {c : Array Value} {e : TypeId} {fz : Nat × Nat} (h : w.heap[b]? = some (.cells c e fz)) : w.cell? ⟨b, off, none⟩ = c[off]? := by simp [World.cell?, h]
theorem part_some {cs r : List Value} {off k : Nat} (h : part cs off k = some r) : off + k ≤ cs.length ∧ r = (cs.drop off).take k := by
  unfold part at h
  split at h
  · simp only [Option.some.injEq] at h; exact ⟨by assumption, h.symm⟩
  · cases h
theorem cells_part {b : Nat} {c : Array Value} {e : TypeId} {fz : Nat × Nat} (h : w.heap[b]? = some (.cells c e fz)) {L : List Value} {o off k : Nat} (hL : ∀ (i : Nat) (V : Value), L[i]? = some V → c[o + i]? = some V) :
    Cells w ⟨b, o + off, none⟩ ((L.drop off).take k) := by
  intro i V hV
  rw [cell_of h]
  rw [List.getElem?_take] at hV
  split at hV
  · rw [List.getElem?_drop] at hV
    have := hL _ _ hV
    rw [← this]; congr 1; show o + off + i = o + (off + i); omega
  · cases hV
theorem cellsAt_ok (h : ObjRel φ A w) {n off k : Nat} (ho : A.ok n = true) {cs : List Value} (hc : cellsAt A n off k = some cs) :
    ∃ L, RVL φ w cs L ∧ Cells w ⟨φ.b n, off, none⟩ L ∧ cs.length = k := by
  unfold cellsAt at hc
  cases hg : A.h.get n with
  | none => simp [hg] at hc
  | some ab =>
    have hob := (h.of_ok hg ho).1
    have fin : ∀ (all : List Value) (c : Array Value) (e : TypeId) (fz : Nat × Nat) (L : List Value), w.heap[φ.b n]? = some (.cells c e fz) → RVL φ w all L → (∀ (i : Nat) (V : Value), L[i]? = some V → c[0 + i]? = some V) →
        (if off + k ≤ all.length then some ((all.drop off).take k) else none) = some cs → ∃ L, RVL φ w cs L ∧ Cells w ⟨φ.b n, off, none⟩ L ∧ cs.length = k := by
      intro all c e fz L hw hr hL he
      split at he
      · simp only [Option.some.injEq] at he; subst he
        refine ⟨(L.drop off).take k, (hr.drop off).take k, ?_, by simp; omega⟩
        have := cells_part (o := 0) (off := off) (k := k) hw hL
        rw [Nat.zero_add] at this; exact this
      · cases he
    rw [hg] at hc
    cases ab with
    | cells all e fz =>
      obtain ⟨c, h1, h2⟩ := hob
      exact fin all c e fz c.toList h1 h2 (fun i V hV => by simpa using hV) hc
    | grown all e s =>
      obtain ⟨c, h1, h2, _⟩ := hob
      refine fin all c e (0, 0) _ h1 h2 (fun i V hV => ?_) hc
      rw [List.getElem?_take] at hV
      split at hV
      · simpa using hV
      · cases hV
    | _ => simp at hc
theorem rowOf_some {v : Value} {n : Nat} {cs : List Value} (h : rowOf v = some (n, cs)) : v = frow n cs := by
  unfold rowOf at h
  split at h
  · split at h
    · rename_i e; simp only [Option.some.injEq, Prod.mk.injEq] at h; obtain ⟨rfl, rfl⟩ := h; subst e; rfl
    · cases h
  · cases h
theorem ptrOf_some {v : Value} {n : Nat} {cs : List Value} (h : ptrOf v = some (n, cs)) : v = fptr n cs := by
  unfold ptrOf at h
  split at h
  · split at h
    · rename_i e; simp only [Option.some.injEq, Prod.mk.injEq] at h; obtain ⟨rfl, rfl⟩ := h; subst e; rfl
    · cases h
  · cases h
theorem addr_some {v : Value} {a : Addr} (h : addr v = some a) : v = .pointer (some a) ∧ a.spot = none := by
  unfold addr at h
  split at h
  · split at h
    · rename_i e; simp only [Option.some.injEq] at h; subst h; exact ⟨rfl, e⟩
    · cases h
  · cases h
theorem nat_some {v : Value} {n : Nat} (h : nat? v = some n) : ∃ k, v = .int k n := by
  unfold nat? at h
  split at h
  · simp only [Option.some.injEq] at h; subst h; exact ⟨_, rfl⟩
  · cases h
theorem RV_frow {n : Nat} {cs : List Value} {V : Value} : RV φ w (frow n cs) V ↔ ∃ F : Array Value, RVL φ w cs F.toList ∧ isRow φ w F n V := by
  simp only [frow, RV, RVA, funRel, if_true]
  constructor
  · rintro ⟨F, C, h1, _, h2⟩; exact ⟨F, h1, by simpa [lenOf] using h2⟩
  · rintro ⟨F, h1, h2⟩
    exact ⟨F, ⟨[.int .i64 n]⟩, h1, ⟨.int .i64 n, [], rfl, rfl, rfl⟩, by simpa [lenOf] using h2⟩
theorem RV_fptr {n : Nat} {cs : List Value} {V : Value} : RV φ w (fptr n cs) V ↔ ∃ F : Array Value, RVL φ w cs F.toList ∧ isPtr φ w F n V := by
  have hne : ptrN ≠ rowN := by decide
  simp only [fptr, RV, RVA, funRel, if_true, if_neg hne]
  constructor
  · rintro ⟨F, C, h1, _, h2⟩; exact ⟨F, h1, by simpa [lenOf] using h2⟩
  · rintro ⟨F, h1, h2⟩
    exact ⟨F, ⟨[.int .i64 n]⟩, h1, ⟨.int .i64 n, [], rfl, rfl, rfl⟩, by simpa [lenOf] using h2⟩
theorem RV_ptr {a : Addr} {V : Value} : RV φ w (.pointer (some a)) V ↔ V = .pointer (some (renA φ a)) := by simp only [RV]
theorem RV_slice {a : Addr} {l c : Nat} {V : Value} : RV φ w (.slice (some a) l c) V ↔ V = .slice (some (renA φ a)) l (renCap φ a.block c) := by simp only [RV]
theorem FroAt.part {a : Addr} {C : Array Value} (h : FroAt φ w a C) {off k : Nat} : Cells w ⟨a.block, a.off + off, none⟩ ((C.toList.drop off).take k) := by
  obtain ⟨h1, h2, c, e, fz, h3, h4⟩ := h
  refine cells_part h3 fun i V hV => ?_
  have hi : i < C.size := by
    have := (List.getElem?_eq_some_iff.1 hV).1; simpa using this
  rw [h4 i hi]; simpa using hV
theorem FroAt.sub {a : Addr} {C D : Array Value} (h : FroAt φ w a C) {off : Nat} (hD : ∀ (i : Nat) (V : Value), D[i]? = some V → C[off + i]? = some V) : FroAt φ w ⟨a.block, a.off + off, none⟩ D := by
  obtain ⟨h1, h2, c, e, fz, h3, h4⟩ := h
  refine ⟨rfl, h2, c, e, fz, h3, fun i hi => ?_⟩
  have hV : D[i]? = some D[i] := Array.getElem?_eq_getElem hi
  have hC := hD i _ hV
  have hlt : off + i < C.size := (Array.getElem?_eq_some_iff.1 hC).1
  have := h4 (off + i) hlt
  rw [hV, ← hC, ← this]; congr 1; show a.off + off + i = a.off + (off + i); omega
theorem cellsFrom_ok (h : ObjRel φ A w) {p : Value} (ho : vok A.ok p = true) {k : Nat} {cs : List Value} (hc : cellsFrom A p k = some cs) {V : Value} (hV : RV φ w p V) :
    ∃ a L, V = .pointer (some a) ∧ a.spot = none ∧ Cells w a L ∧ RVL φ w cs L ∧ cs.length = k := by
  unfold cellsFrom at hc
  cases ha : addr p with
  | some a =>
    rw [ha] at hc
    obtain ⟨rfl, hs⟩ := addr_some ha
    obtain ⟨L, h1, h2, h3⟩ := cellsAt_ok h ho hc
    exact ⟨renA φ a, L, RV_ptr.1 hV, hs, h2, h1, h3⟩
  | none =>
    rw [ha] at hc
    cases hp : ptrOf p with
    | none => simp [hp] at hc
    | some q =>
      obtain ⟨off, all⟩ := q
      rw [hp] at hc
      rw [ptrOf_some hp] at hV
      obtain ⟨F, h1, a, h2, h3⟩ := RV_fptr.1 hV
      obtain ⟨h4, h5⟩ := part_some hc
      subst h5
      exact ⟨_, _, h2, rfl, h3.part, (h1.drop off).take k, by simp; omega⟩
theorem add_off (a : Addr) (i : Nat) (h : a.spot = none) : a.add i = ⟨a.block, a.off + i, none⟩ := by
  unfold Addr.add
  split
  · rename_i e; subst e; cases a; simp_all
  · rfl
theorem run_loadCellsFrom {a : Addr} (hs : a.spot = none) : ∀ (k i : Nat) (acc : Array Value) (L : List Value), L.length = i + k → Cells w a L → acc.toList = L.take i →
    (loadCellsFrom a i k acc).run P w = .ok L.toArray w
  | 0, i, acc, L, hl, _, ha => by
    simp only [loadCellsFrom, Sem.run_pure]
    rw [List.take_of_length_le (by omega)] at ha
    rw [← ha]
  | k + 1, i, acc, L, hl, hr, ha => by
    have hi : i < L.length := by omega
    have hg : L[i]? = some L[i] := List.getElem?_eq_getElem hi
    simp only [loadCellsFrom, Sem.run_bind]
    rw [add_off a i hs, run_load, hr i _ hg]
    simp only [Result.andThen_ok]
    refine run_loadCellsFrom hs k (i + 1) _ L (by omega) hr ?_
    rw [Array.toList_push, ha, List.take_add_one, hg]; simp
theorem run_loadCells {a : Addr} (hs : a.spot = none) {L : List Value} {k : Nat} (hk : L.length = k) (hr : Cells w a L) : (loadCells a k).run P w = .ok L.toArray w :=
  run_loadCellsFrom hs k 0 #[] L (by omega) hr (by simp)
theorem run_loadCells0 {a : Addr} {L : List Value} {k : Nat} (hs : k = 0 ∨ a.spot = none) (hk : L.length = k) (hr : Cells w a L) : (loadCells a k).run P w = .ok L.toArray w := by
  rcases hs with rfl | hs
  · have : L = [] := List.eq_nil_of_length_eq_zero hk
    subst this; rfl
  · exact run_loadCells hs hk hr
theorem one_some {l : Option (List Value)} {v : Value} (h : one? l = some v) : l = some [v] := by
  unfold one? at h
  split at h
  · simp only [Option.some.injEq] at h; subst h; rfl
  · cases h
theorem aload_ok (h : ObjRel φ A w) {t : TypeId} {p v V : Value} (ho : vok A.ok p = true) (ha : aload P A t p = some v) (hV : RV φ w p V) :
    ∃ a U, V = .pointer (some a) ∧ (loadVar t a).run P w = .ok U w ∧ RV φ w v U := by
  unfold aload at ha
  cases hi : isag P t with
  | none => simp [hi] at ha
  | some b =>
    rw [hi] at ha
    cases b with
    | true =>
      cases hk : szof P t with
      | none => simp [hk] at ha
      | some k =>
        rw [hk] at ha
        simp only [aggOf] at ha
        split at ha
        · rename_i cs hc
          simp only [Option.some.injEq] at ha; subst ha
          obtain ⟨a, L, h1, h2, h3, h4, h5⟩ := cellsFrom_ok h ho hc hV
          refine ⟨a, .agg L.toArray, h1, ?_, ?_⟩
          · simp only [loadVar, Sem.run_bind, run_isAgg hi, Result.andThen_ok, if_true, run_sizeOf hk]
            rw [run_loadCells h2 (by rw [← h4.length, h5]) h3]; rfl
          · simp only [RV, RVA]; exact ⟨L.toArray, rfl, by simpa using h4⟩
        · cases ha
    | false =>
      have hc := one_some ha
      obtain ⟨a, L, h1, h2, h3, h4, h5⟩ := cellsFrom_ok h ho hc hV
      obtain ⟨U, M, rfl, h6, _⟩ := h4
      refine ⟨a, U, h1, ?_, h6⟩
      simp only [loadVar, Sem.run_bind, run_isAgg hi, Result.andThen_ok, Bool.false_eq_true, if_false]
      have := h3 0 U rfl
      have e : (⟨a.block, a.off + 0, none⟩ : Addr) = a := by cases a; simp_all
      rw [e] at this
      simp [run_load, this]
end Go.Ev
namespace Go.Ev
open Go
variable {P : Program} {φ : Rn} {w : World} {A : AS}
theorem RVL.set {l L : List Value} (h : RVL φ w l L) {v V : Value} (hv : RV φ w v V) (i : Nat) : RVL φ w (l.set i v) (L.set i V) := by
  rw [RVL_iff] at h ⊢
  refine ⟨by simp [h.1], fun j u U hu hU => ?_⟩
  rw [List.getElem?_set] at hu hU
  split at hu
  · rename_i e
    rw [if_pos e] at hU
    split at hu
    · rename_i e2
      rw [if_pos (by omega)] at hU
      cases hu; cases hU; exact hv
    · cases hu
  · rename_i e
    rw [if_neg e] at hU
    exact h.2 j u U hu hU
theorem RV_cells {v V : Value} (h : RV φ w v V) : RVL φ w v.cells.toList V.cells.toList := by
  have one : ∀ {u U : Value}, u.cells = #[u] → U.cells = #[U] → RV φ w u U → RVL φ w u.cells.toList U.cells.toList := fun h1 h2 h => by
    rw [h1, h2]; exact RVL.one h
  cases v with
  | agg cs => obtain ⟨C, rfl, h2⟩ := h; exact RVA_iff.1 h2
  | pointer a => cases a <;> (have h' := h; simp only [RV] at h'; subst h'; exact one rfl rfl h)
  | slice a l c => cases a <;> (have h' := h; simp only [RV] at h'; subst h'; exact one rfl rfl h)
  | map a => cases a <;> (have h' := h; simp only [RV] at h'; subst h'; exact one rfl rfl h)
  | chan a => cases a <;> (have h' := h; simp only [RV] at h'; subst h'; exact one rfl rfl h)
  | iface t u => have h' := h; simp only [RV] at h'; obtain ⟨U, rfl, _⟩ := h'; exact one rfl rfl h
  | tuple vs => have h' := h; simp only [RV] at h'; obtain ⟨U, rfl, _⟩ := h'; exact one rfl rfl h
  | func fn first captured =>
    have h' := h
    simp only [RV] at h'
    obtain ⟨F, C, _, _, h3⟩ := h'
    have : V.cells = #[V] := by
      cases fn with
      | yield l =>
        simp only [funRel] at h3
        split at h3
        · rcases h3 with ⟨rfl, _⟩ | ⟨a, cap, rfl, _⟩ <;> rfl
        · split at h3
          · obtain ⟨a, rfl, _⟩ := h3; rfl
          · subst h3; rfl
      | _ => simp only [funRel] at h3; subst h3; rfl
    exact one rfl this h
  | _ => have h' := h; simp only [RV] at h'; subst h'; exact one rfl rfl h
def PL (φ : Rn) (w : World) : List (Nat × Value) → List (Nat × Value) → Prop
  | [], L => L = []
  | p :: l, L => ∃ V M, L = (p.1, V) :: M ∧ RV φ w p.2 V ∧ PL φ w l M
theorem PL.of_map {α : Type} (f g : α → Value) (k : α → Nat) (xs : List α) (h : ∀ x ∈ xs, RV φ w (f x) (g x)) : PL φ w (xs.map fun x => (k x, f x)) (xs.map fun x => (k x, g x)) := by
  induction xs with
  | nil => rfl
  | cons x xs ih => exact ⟨_, _, rfl, h x (by simp), ih fun y hy => h y (by simp [hy])⟩
theorem foldl_set {off : Nat} : ∀ (l L : List Value) (k : Nat) (c C : Array Value), RVL φ w l L → RVL φ w c.toList C.toList →
    RVL φ w ((l.zipIdx k).foldl (fun cs (p : Value × Nat) => cs.setIfInBounds (off + p.2) p.1) c).toList ((L.zipIdx k).foldl (fun cs (p : Value × Nat) => cs.setIfInBounds (off + p.2) p.1) C).toList
  | [], L, k, c, C, h, hc => by cases (RVL.nil_iff.1 h); exact hc
  | v :: l, L, k, c, C, h, hc => by
    obtain ⟨V, M, rfl, h1, h2⟩ := h
    simp only [List.zipIdx_cons, List.foldl_cons]
    refine foldl_set l M (k + 1) _ _ h2 ?_
    simp only [Array.toList_setIfInBounds]
    exact hc.set h1 _
theorem fill_ok (place : Nat → Option (Nat × Nat)) : ∀ (l L : List (Nat × Value)) (c C r : Array Value), PL φ w l L → RVL φ w c.toList C.toList → Instr.fill place c l = some r →
    ∃ R, Instr.fill place C L = some R ∧ RVL φ w r.toList R.toList
  | [], L, c, C, r, h, hc, hf => by
    simp only [PL] at h; subst h
    simp only [Instr.fill, Option.some.injEq] at hf ⊢; subst hf
    exact ⟨C, rfl, hc⟩
  | (i, v) :: l, L, c, C, r, h, hc, hf => by
    obtain ⟨V, M, rfl, h1, h2⟩ := h
    simp only [Instr.fill] at hf ⊢
    cases hp : place i with
    | none => simp [hp] at hf
    | some q =>
      obtain ⟨off, size⟩ := q
      rw [hp] at hf
      have hs : V.cells.size = v.cells.size := by have := (RV_cells h1).length; simpa using this.symm
      have hcs : C.size = c.size := by have := hc.length; simpa using this.symm
      simp only at hf ⊢
      rw [hs, hcs]
      split at hf
      · cases hf
      · rename_i hcond
        rw [if_neg hcond]
        refine fill_ok place l M _ _ r h2 ?_ hf
        rw [← Array.foldl_toList, ← Array.foldl_toList, Array.toList_zipIdx, Array.toList_zipIdx]
        exact foldl_set _ _ 0 c C (RV_cells h1) hc
theorem zeroOf_ok {t : TypeId} {z : Value} (h : zeroOf P t = some z) : (zeroValue t).run P w = .ok z w ∧ bare z = true ∧ ∃ i, P.info? t = some i ∧ i.zero = some z := by
  unfold zeroOf at h
  cases hi : P.info? t with
  | none => simp [hi] at h
  | some i =>
    cases hz : i.zero with
    | none => simp [hi, hz] at h
    | some z' =>
      simp only [hi, hz] at h
      split at h
      · rename_i hb
        simp only [Option.some.injEq] at h; subst h
        exact ⟨run_zeroValue hi hz, hb, i, rfl, hz⟩
      · cases h
theorem RV_self {v : Value} (h : bare v = true) : RV φ w v v := (RV.bare v v h).2 rfl
theorem RVL_zero {z : Value} (h : bare z = true) : RVL φ w z.cells.toList z.cells.toList := RV_cells (RV_self h)
theorem aggA_some {o : Option (Array Value)} {v : Value} (h : aggA o = some v) : ∃ cs, o = some cs ∧ v = .agg cs := by
  unfold aggA at h
  split at h
  · rename_i cs; simp only [Option.some.injEq] at h; exact ⟨cs, rfl, h.symm⟩
  · cases h
theorem abuild_ok {t : TypeId} {l L : List (Nat × Value)} {v : Value} (h : abuild P t l = some v) (hL : PL φ w l L) : ∃ V, (Instr.build t L.toArray).run P w = .ok V w ∧ RV φ w v V := by
  unfold abuild at h
  cases hz : zeroOf P t with
  | none => simp [hz] at h
  | some z =>
    cases hu : P.underlying t with
    | none => simp [hz, hu] at h
    | some d =>
      rw [hz, hu] at h
      obtain ⟨h1, h2, i, h3, h4⟩ := zeroOf_ok (w := w) hz
      simp only [buildAs] at h
      split at h
      · rename_i fields
        split at h
        · rename_i places hp
          obtain ⟨cs, hc, rfl⟩ := aggA_some h
          obtain ⟨R, hR, hrv⟩ := fill_ok _ l L z.cells z.cells cs hL (RVL_zero h2) hc
          refine ⟨.agg R, ?_, ⟨R, rfl, RVA_iff.2 hrv⟩⟩
          simp [Instr.build, run_underlying hu, h1, Array.mapM_eq_mapM_toList, run_places w _ _ hp, hR]
        · cases h
      · rename_i n elem
        split at h
        · rename_i s hs
          obtain ⟨cs, hc, rfl⟩ := aggA_some h
          obtain ⟨R, hR, hrv⟩ := fill_ok _ l L z.cells z.cells cs hL (RVL_zero h2) hc
          refine ⟨.agg R, ?_, ⟨R, rfl, RVA_iff.2 hrv⟩⟩
          simp [Instr.build, run_underlying hu, h1, run_sizeOf hs, hR]
        · cases h
      · cases h
theorem run_bound {k : IntKind} {n y : Nat} {c : BoundsCode} (h : n ≤ y) : (Instr.sliceBound (.int k n) y c).run P w = .ok n w := by
  simp [Instr.sliceBound, asIntOf, h]
end Go.Ev
namespace Go.Ev
open Go
variable {P : Program} {φ : Rn} {w : World} {A : AS}
def OR (φ : Rn) (w : World) : Option Value → Option Value → Prop
  | none, X => X = none
  | some v, X => ∃ V, X = some V ∧ RV φ w v V
theorem OR.of_map (f g : Operand → Value) (x : Option Operand) (h : ∀ y, x = some y → RV φ w (f y) (g y)) : OR φ w (x.map f) (x.map g) := by
  cases x with
  | none => rfl
  | some y => exact ⟨_, rfl, h y rfl⟩
theorem RV_int {k : IntKind} {n : Int} {V : Value} : RV φ w (.int k n) V ↔ V = .int k n := RV.bare _ _ rfl
theorem nat_RV {v V : Value} {n : Nat} (h : nat? v = some n) (hV : RV φ w v V) : ∃ k, V = .int k n := by
  obtain ⟨k, rfl⟩ := nat_some h
  exact ⟨k, RV_int.1 hV⟩
theorem renA_add (a : Addr) (k : Nat) (h : a.spot = none) : renA φ (a.add k) = (renA φ a).add k := by
  rw [add_off a k h, add_off (renA φ a) k h]; rfl
theorem bounds_ok {isS : Bool} {len capA l h : Nat} {m : Option Nat} {lo LO hi HI mx MX : Option Value}
    (hlo : OR φ w lo LO) (hhi : OR φ w hi HI) (hmx : OR φ w mx MX)
    (el : optNat lo 0 = some l) (eh : optNat hi len = some h) (em : optMax mx = some m) (hm : m.isSome = true → hi.isSome = true)
    (h1 : l ≤ h) (h2 : h ≤ m.getD capA) (h3 : ∀ k, m = some k → k ≤ capA) :
    (Instr.sliceBounds isS len capA LO HI MX).run P w = .ok (l, h, m.getD capA) w := by
  have hL : LO = none ∧ l = 0 ∨ ∃ k, LO = some (.int k l) := by
    cases lo with
    | none => simp [optNat] at el; exact .inl ⟨hlo, el.symm⟩
    | some v =>
      obtain ⟨V, rfl, hV⟩ := hlo
      obtain ⟨k, rfl⟩ := nat_RV el hV
      exact .inr ⟨k, rfl⟩
  have hH : HI = none ∧ hi = none ∧ h = len ∨ ∃ k, HI = some (.int k h) := by
    cases hi with
    | none => simp [optNat] at eh; exact .inl ⟨hhi, rfl, eh.symm⟩
    | some v =>
      obtain ⟨V, rfl, hV⟩ := hhi
      obtain ⟨k, rfl⟩ := nat_RV eh hV
      exact .inr ⟨k, rfl⟩
  have hM : MX = none ∧ m = none ∨ ∃ k j, MX = some (.int k (j : Nat)) ∧ m = some j := by
    cases mx with
    | none => simp [optMax] at em; exact .inl ⟨hmx, em.symm⟩
    | some v =>
      obtain ⟨V, rfl, hV⟩ := hmx
      simp only [optMax] at em
      cases hn : nat? v with
      | none => simp [hn] at em
      | some j =>
        rw [hn] at em
        simp at em
        obtain ⟨k, rfl⟩ := nat_RV hn hV
        exact .inr ⟨k, j, rfl, em.symm⟩
  have hlow : ∀ {c : BoundsCode} {k : IntKind}, (Instr.sliceBound (.int k l) h c).run P w = .ok l w := run_bound h1
  rcases hM with ⟨rfl, rfl⟩ | ⟨k3, j, rfl, rfl⟩
  · simp only [Option.getD_none] at h2 ⊢
    rcases hH with ⟨rfl, rfl, rfl⟩ | ⟨k2, rfl⟩
    · rcases hL with ⟨rfl, rfl⟩ | ⟨k1, rfl⟩
      · simp [Instr.sliceBounds]
      · simp [Instr.sliceBounds, hlow]
    · have hb : ∀ {c : BoundsCode}, (Instr.sliceBound (.int k2 h) capA c).run P w = .ok h w := run_bound h2
      rcases hL with ⟨rfl, rfl⟩ | ⟨k1, rfl⟩
      · simp [Instr.sliceBounds, hb]
      · simp [Instr.sliceBounds, hb, hlow]
  · simp only [Option.getD_some] at h2 ⊢
    have hc : ∀ {c : BoundsCode}, (Instr.sliceBound (.int k3 j) capA c).run P w = .ok j w := run_bound (h3 j rfl)
    rcases hH with ⟨rfl, rfl, rfl⟩ | ⟨k2, rfl⟩
    · simp at hm
    · have hb : ∀ {c : BoundsCode}, (Instr.sliceBound (.int k2 h) j c).run P w = .ok h w := run_bound h2
      rcases hL with ⟨rfl, rfl⟩ | ⟨k1, rfl⟩
      · simp [Instr.sliceBounds, hb, hc]
      · simp [Instr.sliceBounds, hb, hlow, hc]
theorem aslice_ok {a : Addr} {size len cap capA : Nat} {lo LO hi HI mx MX : Option Value} {v : Value} {isS : Bool}
    (hc : capA = renCap φ a.block cap) (hlo : OR φ w lo LO) (hhi : OR φ w hi HI) (hmx : OR φ w mx MX)
    (h : aslice a size len cap lo hi mx = some v) :
    ∃ l hh m, (Instr.sliceBounds isS len capA LO HI MX).run P w = .ok (l, hh, m) w ∧ RV φ w v (.slice (some (if m = l then renA φ a else (renA φ a).add (l * size))) (hh - l) (m - l)) := by
  unfold aslice at h
  split at h
  · cases h
  · rename_i hsp
    have hs : a.spot = none := by simpa using hsp
    have hk : (if cap < big then cap else cap - big) ≤ capA := by rw [hc]; unfold renCap; split <;> omega
    generalize hkn : (if cap < big then cap else cap - big) = known at h hk
    simp only at h
    split at h
    ·
      rename_i l m el em
      split at h
      · rename_i vh
        split at h
        · rename_i hh eh
          split at h
          · rename_i hcond
            simp only [Option.some.injEq] at h
            have hb := bounds_ok (P := P) (isS := isS) (len := len) (capA := capA) (m := some m) hlo hhi hmx el (h := hh) (show optNat (some vh) len = some hh from eh) em (fun _ => rfl) hcond.1 (by simpa using hcond.2.1) (fun k hk => by cases hk; omega)
            refine ⟨l, hh, m, by simpa using hb, ?_⟩
            subst h
            rw [RV_slice]
            have : renCap φ ((if m = l then a else a.add (l * size)) : Addr).block (m - l) = m - l := by unfold renCap; rw [if_pos (by omega)]
            rw [this]
            congr 2
            split
            · rfl
            · exact (renA_add a _ hs).symm
          · cases h
        · cases h
      · cases h
    · rename_i l el em
      split at h
      · rename_i hh eh
        split at h
        · rename_i hcond
          have hb := bounds_ok (P := P) (isS := isS) (len := len) (capA := capA) (m := none) hlo hhi hmx el (h := hh) eh em (fun h => by simp at h) hcond.1 (by simp; omega) (fun k hk => by cases hk)
          refine ⟨l, hh, capA, by simpa using hb, ?_⟩
          split at h
          · rename_i hlt
            simp only [Option.some.injEq] at h
            have hca : capA = cap := by rw [hc]; unfold renCap; rw [if_pos hlt]
            rw [hca]
            subst h
            rw [RV_slice]
            have : renCap φ ((if cap = l then a else a.add (l * size)) : Addr).block (cap - l) = cap - l := by unfold renCap; rw [if_pos (by omega)]
            rw [this]
            congr 2
            split
            · rfl
            · exact (renA_add a _ hs).symm
          · rename_i hge
            split at h
            · rename_i hor
              simp only [Option.some.injEq] at h
              have hca : capA = cap - big + φ.x a.block := by rw [hc]; unfold renCap; rw [if_neg hge]
              rw [if_neg hge] at hkn
              subst h
              rw [RV_slice]
              have hbl : (a.add (l * size)).block = a.block := by rw [add_off a _ hs]
              have hcap : renCap φ (a.add (l * size)).block (cap - l) = capA - l := by
                rw [hbl, hca]; unfold renCap; rw [if_neg (by omega)]; omega
              rw [hcap]
              have key : (if capA = l then renA φ a else (renA φ a).add (l * size)) = renA φ (a.add (l * size)) := by
               rw [renA_add a _ hs]
               split
               · rename_i e
                 rcases hor with h0 | h0
                 · subst h0; rw [Nat.zero_mul]; rfl
                 · omega
               · rfl
              rw [key]
            · rename_i hor
              simp only [Option.some.injEq] at h
              subst h
              have h0 : hh - l = 0 := by omega
              rw [h0, RV_frow]
              exact ⟨#[], by simp [RVL], .inr ⟨_, _, rfl, Nat.zero_le _, .inr ⟨rfl, rfl, trivial⟩⟩⟩
        · cases h
      · cases h
    · cases h
end Go.Ev
namespace Go.Ev
open Go
variable {P : Program} {φ : Rn} {w : World} {A : AS}
theorem row_slice {n : Nat} {cs : List Value} {F : Array Value} {V : Value} (hF : RVL φ w cs F.toList) (hR : isRow φ w F n V) {lo LO hi HI mx MX : Option Value} {size : Nat} {v : Value}
    (hlo : OR φ w lo LO) (hhi : OR φ w hi HI) (hmx : OR φ w mx MX) (h : frSlice n cs size lo hi mx = some v) :
    ∃ a cap l hh, V = .slice a n cap ∧ (Instr.sliceBounds true n cap LO HI MX).run P w = .ok (l, hh, cap) w ∧ RV φ w v (.slice (if cap = l then a else a.map (·.add (l * size))) (hh - l) (cap - l)) := by
  unfold frSlice at h
  split at h
  · cases h
  · split at h
    · rename_i l hh el eh
      split at h
      · rename_i hcond
        obtain ⟨cs', hp, rfl⟩ := Option.map_eq_some_iff.1 h
        obtain ⟨hle, rfl⟩ := part_some hp
        rcases hR with ⟨rfl, rfl, hF0⟩ | ⟨a, cap, rfl, hcap, hfro | ⟨hF0, rfl, hsp⟩⟩
        · have hl : l = 0 := by omega
          have hh0 : hh = 0 := by omega
          subst hl hh0
          refine ⟨none, 0, 0, 0, rfl, by simpa using bounds_ok (P := P) (isS := true) (len := 0) (capA := 0) (m := none) hlo hhi hmx el (h := 0) eh rfl (fun h => by simp at h) (Nat.le_refl _) (by simp) (fun k hk => by cases hk), ?_⟩
          rw [RV_frow]
          refine ⟨#[], ?_, .inl ⟨rfl, rfl, rfl⟩⟩
          have : cs = [] := List.eq_nil_of_length_eq_zero (by rw [hF.length]; simpa using hF0)
          subst this; simp [RVL]
        · refine ⟨some a, cap, l, hh, rfl, by simpa using bounds_ok (P := P) (isS := true) (len := n) (capA := cap) (m := none) hlo hhi hmx el (h := hh) eh rfl (fun h => by simp at h) hcond.1 (by simp; omega) (fun k hk => by cases hk), ?_⟩
          rw [RV_frow]
          refine ⟨((F.toList.drop (l * size)).take ((hh - l) * size)).toArray, by simpa using (hF.drop _).take _, .inr ⟨if cap = l then a else a.add (l * size), cap - l, ?_, by omega, ?_⟩⟩
          · split <;> rfl
          · split
            · rename_i e
              have h0 : hh - l = 0 := by omega
              rw [h0, Nat.zero_mul, List.take_zero]
              obtain ⟨h1, h2, c, e', fz, h3, _⟩ := hfro
              exact .inl ⟨h1, h2, c, e', fz, h3, fun i hi => by simp at hi⟩
            · rw [add_off a _ hfro.spot]
              refine .inl <| hfro.sub fun i U hU => ?_
              have hU' : ((F.toList.drop (l * size)).take ((hh - l) * size))[i]? = some U := by simpa using hU
              rw [List.getElem?_take] at hU'
              split at hU'
              · rw [List.getElem?_drop] at hU'; simpa using hU'
              · cases hU'
        · have hl : l = 0 := by omega
          have hh0 : hh = 0 := by omega
          subst hl hh0
          refine ⟨some a, cap, 0, 0, rfl, by simpa using bounds_ok (P := P) (isS := true) (len := 0) (capA := cap) (m := none) hlo hhi hmx el (h := 0) eh rfl (fun h => by simp at h) (Nat.le_refl _) (by simp) (fun k hk => by cases hk), ?_⟩
          rw [RV_frow]
          have : cs = [] := List.eq_nil_of_length_eq_zero (by rw [hF.length]; simpa using hF0)
          subst this
          refine ⟨#[], by simp [RVL], .inr ⟨a, cap, ?_, by omega, .inr ⟨rfl, rfl, hsp⟩⟩⟩
          have ha : a.add (0 * size) = a := by rw [Nat.zero_mul]; rfl
          simp only [Option.map_some, ha, ite_self, Nat.sub_zero]
      · cases h
    · cases h
theorem asliceAt_ok {t : TypeId} {x X : Value} {lo LO hi HI mx MX : Option Value} {v : Value} (hx : RV φ w x X)
    (hlo : OR φ w lo LO) (hhi : OR φ w hi HI) (hmx : OR φ w mx MX) (h : asliceAt P t x lo hi mx = some v) :
    ∃ V, (Instr.sliceAt t X LO HI MX).run P w = .ok V w ∧ RV φ w v V := by
  unfold asliceAt at h
  split at h
  · rename_i n elem hu
    split at h
    · rename_i a s ha hs
      split at h
      · rename_i hn
        obtain ⟨rfl, hsp⟩ := addr_some ha
        rw [RV_ptr] at hx
        subst hx
        obtain ⟨l, hh, m, h1, h2⟩ := aslice_ok (P := P) (isS := false) (capA := n) (by unfold renCap; rw [if_pos hn]) hlo hhi hmx h
        refine ⟨_, ?_, h2⟩
        simp [Instr.sliceAt, run_underlying hu, Instr.sureAddr, h1, run_sizeOf hs]
      · cases h
    · cases h
  · rename_i arr hu
    split at h
    · rename_i a n elem ha hu2
      split at h
      · rename_i s hs
        split at h
        · rename_i hn
          obtain ⟨rfl, hsp⟩ := addr_some ha
          rw [RV_ptr] at hx
          subst hx
          obtain ⟨l, hh, m, h1, h2⟩ := aslice_ok (P := P) (isS := false) (capA := n) (by unfold renCap; rw [if_pos hn]) hlo hhi hmx h
          refine ⟨_, ?_, h2⟩
          simp [Instr.sliceAt, Instr.slice, run_underlying hu, run_underlying hu2, asAddr, h1, run_sizeOf hs]
        · cases h
      · cases h
    · cases h
  · rename_i elem hu
    split at h
    · rename_i s hs
      split at h
      · rename_i a len cap
        rw [RV_slice] at hx
        subst hx
        obtain ⟨l, hh, m, h1, h2⟩ := aslice_ok (P := P) (isS := true) rfl hlo hhi hmx h
        refine ⟨_, ?_, h2⟩
        simp only [Instr.sliceAt, Instr.slice, Sem.run_bind, run_underlying hu, Result.andThen_ok, h1, run_sizeOf hs, Sem.run_pure, Option.map_some]
        split <;> rfl
      · rename_i y
        split at h
        · rename_i n cs hr
          rw [rowOf_some hr, RV_frow] at hx
          obtain ⟨F, h1, h2⟩ := hx
          obtain ⟨a, cap, l, hh, rfl, h3, h4⟩ := row_slice (P := P) h1 h2 hlo hhi hmx h
          refine ⟨_, ?_, h4⟩
          simp only [Instr.sliceAt, Instr.slice, Sem.run_bind, run_underlying hu, Result.andThen_ok, h3, run_sizeOf hs, Sem.run_pure]
        · cases h
    · cases h
  · cases h
theorem ptrAdd_ok {x X v : Value} {k : Nat} (hx : RV φ w x X) (h : ptrAdd x k = some v) : ∃ a, X = .pointer (some a) ∧ RV φ w v (.pointer (some (a.add k))) := by
  unfold ptrAdd at h
  split at h
  · rename_i a ha
    simp only [Option.some.injEq] at h; subst h
    obtain ⟨rfl, hs⟩ := addr_some ha
    refine ⟨_, RV_ptr.1 hx, ?_⟩
    rw [RV_ptr, renA_add a _ hs]
  · split at h
    · rename_i off cs hp
      simp only [Option.some.injEq] at h; subst h
      rw [ptrOf_some hp, RV_fptr] at hx
      obtain ⟨F, h1, a, h2, h3⟩ := hx
      refine ⟨_, h2, ?_⟩
      rw [RV_fptr]
      refine ⟨F, h1, a, ?_, h3⟩
      rw [add_off _ _ rfl, Nat.add_assoc]
    · cases h
theorem afieldAt_ok {t : TypeId} {x X v : Value} {f : Nat} (hx : RV φ w x X) (h : afieldAt P t x f = some v) : ∃ V, (Instr.fieldAt t X f).run P w = .ok V w ∧ RV φ w v V := by
  unfold afieldAt at h
  split at h
  · rename_i fields hu
    split at h
    · rename_i fd hf
      split at h
      · rename_i s hs
        split at h
        · cases h
        · rename_i h0
          obtain ⟨a, rfl, h1⟩ := ptrAdd_ok hx h
          refine ⟨_, ?_, h1⟩
          simp [Instr.fieldAt, run_underlying hu, hf, Instr.sureAddr, fieldPlace, run_sizeOf hs, h0]
      · cases h
    · cases h
  · cases h
theorem RV_none {l c : Nat} {V : Value} : RV φ w (.slice none l c) V ↔ V = .slice none l c := by simp only [RV]
theorem aindexAt_ok {t : TypeId} {x X ix IX v : Value} (hx : RV φ w x X) (hi : RV φ w ix IX) (h : aindexAt P t x ix = some v) : ∃ V, (Instr.indexAt t X IX).run P w = .ok V w ∧ RV φ w v V := by
  unfold aindexAt at h
  split at h
  · rename_i i len elem hn hu
    split at h
    · rename_i s hs
      split at h
      · rename_i hlt
        obtain ⟨k, rfl⟩ := nat_RV hn hi
        obtain ⟨a, rfl, h1⟩ := ptrAdd_ok hx h
        refine ⟨_, ?_, h1⟩
        simp [Instr.indexAt, asIntOf, run_underlying hu, Instr.sureAddr, run_sizeOf hs, hlt]
      · cases h
    · cases h
  · rename_i i elem hn hu
    split at h
    · rename_i s hs
      obtain ⟨k, rfl⟩ := nat_RV hn hi
      split at h
      · rename_i a len cap
        split at h
        · rename_i hc
          simp only [Option.some.injEq] at h; subst h
          rw [RV_slice] at hx
          subst hx
          refine ⟨_, ?_, RV_ptr.2 rfl⟩
          rw [renA_add a _ hc.1]
          simp [Instr.indexAt, asIntOf, run_underlying hu, run_sizeOf hs, hc.2]
        · cases h
      · rename_i y
        split at h
        · rename_i n cs hr
          split at h
          · rename_i hlt
            simp only [Option.some.injEq] at h; subst h
            rw [rowOf_some hr, RV_frow] at hx
            obtain ⟨F, h1, h2⟩ := hx
            rcases h2 with ⟨_, h3, _⟩ | ⟨a, cap, rfl, h3, h4 | ⟨_, h4, _⟩⟩
            rotate_left
            rotate_left
            · omega
            · omega
            · refine ⟨.pointer (some (a.add (i * s))), ?_, ?_⟩
              · simp [Instr.indexAt, asIntOf, run_underlying hu, run_sizeOf hs, hlt]
              · rw [RV_fptr, add_off a _ h4.spot]
                exact ⟨F, h1, a, rfl, h4⟩
          · cases h
        · cases h
    · cases h
  · cases h
theorem RVL_extract {cs C : Array Value} (h : RVL φ w cs.toList C.toList) (i j : Nat) : RVL φ w (cs.extract i j).toList (C.extract i j).toList := by
  rw [Array.toList_extract, Array.toList_extract, List.extract_eq_take_drop, List.extract_eq_take_drop]
  exact (h.drop i).take _
theorem apart_ok {t : TypeId} {cs C : Array Value} {off : Nat} {v : Value} (h : RVL φ w cs.toList C.toList) (ha : apart P t cs off = some v) : ∃ V, (Go.part t C off).run P w = .ok V w ∧ RV φ w v V := by
  unfold apart at ha
  split at ha
  · rename_i hi
    split at ha
    · rename_i s hs
      simp only [Option.some.injEq] at ha; subst ha
      refine ⟨.agg (C.extract off (off + s)), ?_, ⟨_, rfl, RVA_iff.2 (RVL_extract h _ _)⟩⟩
      simp [Go.part, run_isAgg hi, run_sizeOf hs]
    · cases ha
  · rename_i hi
    obtain ⟨V, h1, h2⟩ := h.get (show cs.toList[off]? = some v by simpa using ha)
    refine ⟨V, ?_, h2⟩
    have : C[off]? = some V := by simpa using h1
    simp [Go.part, run_isAgg hi, this]
  · cases ha
theorem afield_ok {t : TypeId} {x X v : Value} {f : Nat} (hx : RV φ w x X) (h : afield P t x f = some v) : ∃ V, (Instr.field t X f).run P w = .ok V w ∧ RV φ w v V := by
  unfold afield at h
  split at h
  · rename_i fields cs hu
    split at h
    · rename_i fd hf
      obtain ⟨C, rfl, hC⟩ := hx
      obtain ⟨V, h1, h2⟩ := apart_ok (RVA_iff.1 hC) h
      refine ⟨V, ?_, h2⟩
      simp [Instr.field, run_underlying hu, hf, asAgg, h1]
    · cases h
  · cases h
theorem aindex_ok {t : TypeId} {x X ix IX v : Value} (hx : RV φ w x X) (hi : RV φ w ix IX) (h : aindex P t x ix = some v) : ∃ V, (Instr.index t X IX).run P w = .ok V w ∧ RV φ w v V := by
  unfold aindex at h
  split at h
  · rename_i len elem cs i hu hn
    split at h
    · rename_i s hs
      split at h
      · rename_i hlt
        obtain ⟨C, rfl, hC⟩ := hx
        obtain ⟨k, rfl⟩ := nat_RV hn hi
        obtain ⟨V, h1, h2⟩ := apart_ok (RVA_iff.1 hC) h
        refine ⟨V, ?_, h2⟩
        simp [Instr.index, asIntOf, run_underlying hu, hlt, run_sizeOf hs, h1]
      · cases h
    · cases h
  · cases h
theorem sliceLen_ok {x X : Value} {n : Nat} (hx : RV φ w x X) (h : sliceLen x = some n) : ∃ a cap, X = .slice a n cap := by
  unfold sliceLen at h
  split at h
  · rename_i a n' cap
    simp only [Option.some.injEq] at h; subst h
    cases a with
    | none => exact ⟨none, cap, RV_none.1 hx⟩
    | some a => exact ⟨_, _, RV_slice.1 hx⟩
  · split at h
    · rename_i n' cs hr
      simp only [Option.some.injEq] at h; subst h
      rw [rowOf_some hr, RV_frow] at hx
      obtain ⟨F, _, h2⟩ := hx
      rcases h2 with ⟨rfl, rfl, _⟩ | ⟨a, cap, rfl, _⟩
      · exact ⟨_, _, rfl⟩
      · exact ⟨_, _, rfl⟩
    · cases h
theorem sliceCells_ok (hO : ObjRel φ A w) {x X : Value} (ho : vok A.ok x = true) {k : Nat} {cs : List Value} (hx : RV φ w x X) (h : sliceCells A x k = some cs) :
    ∃ a n cap L, X = .slice a n cap ∧ RVL φ w cs L ∧ L.length = k ∧ (match a with | none => k = 0 | some a => (k = 0 ∨ a.spot = none) ∧ Cells w a L) := by
  unfold sliceCells at h
  split at h
  · rename_i a n cap
    split at h
    · rename_i h0
      simp only [Option.some.injEq] at h; subst h
      exact ⟨_, _, _, [], RV_slice.1 hx, rfl, h0.symm, ⟨.inl h0, fun i V hi => by simp at hi⟩⟩
    · split at h
      · rename_i hs
        obtain ⟨L, h1, h2, h3⟩ := cellsAt_ok hO ho h
        exact ⟨_, _, _, L, RV_slice.1 hx, h1, by rw [← h1.length, h3], ⟨.inr hs, by simpa [renA, hs] using h2⟩⟩
      · cases h
  · split at h
    · rename_i h0
      simp only [Option.some.injEq] at h; subst h
      exact ⟨none, _, _, [], RV_none.1 hx, rfl, h0.symm, h0⟩
    · cases h
  · split at h
    · rename_i n' all hr
      rw [rowOf_some hr, RV_frow] at hx
      obtain ⟨F, h1, h2⟩ := hx
      obtain ⟨h3, rfl⟩ := part_some h
      rw [List.drop_zero]
      have hlen := h1.length
      rcases h2 with ⟨rfl, rfl, hF⟩ | ⟨a, cap, rfl, _, h4 | ⟨hF, rfl, hsp⟩⟩
      · have : k = 0 := by simp at hlen; omega
        subst this
        exact ⟨none, _, _, [], rfl, rfl, rfl, rfl⟩
      rotate_left
      · have : k = 0 := by simp at hlen; omega
        subst this
        exact ⟨some a, _, _, [], rfl, rfl, rfl, .inl rfl, fun i V hi => by simp at hi⟩
      · refine ⟨some a, _, _, F.toList.take k, rfl, h1.take k, by simp at hlen ⊢; omega, .inr h4.spot, ?_⟩
        have := h4.part (off := 0) (k := k)
        rw [List.drop_zero] at this
        have e : (⟨a.block, a.off + 0, none⟩ : Addr) = a := by have := h4.spot; cases a; simp_all
        rw [e] at this; exact this
    · cases h
end Go.Ev
namespace Go.Ev
open Go
variable {P : Program} {φ : Rn} {w : World} {A : AS}
def Turns (P : Program) (φ : Rn) (A : AS) (w : World) (s : Sem Value) (v : Value) (A' : AS) : Prop :=
  ∃ V φ' w', s.run P w = .ok V w' ∧ RV φ' w' v V ∧ Rel φ' A' w' ∧ Runs φ A w φ' A' w'
def TurnsU (P : Program) (φ : Rn) (A : AS) (w : World) (s : Sem Unit) (A' : AS) : Prop :=
  ∃ φ' w', s.run P w = .ok () w' ∧ Rel φ' A' w' ∧ Runs φ A w φ' A' w'
theorem anew_some {ab : AB} {n : Nat} {A' : AS} (h : anew A ab = some (n, A')) : n = A.next ∧ A' = A.put ab ∧ A.next + 2 < 2 ^ 24 ∧ A.next ∉ A.pend := by
  unfold anew at h
  split at h
  · rename_i hr
    simp only [Option.some.injEq, Prod.mk.injEq] at h
    unfold room at hr
    simp only [Bool.and_eq_true, Nat.blt_eq, Bool.not_eq_true', List.contains_eq_mem, decide_eq_false_iff_not] at hr
    exact ⟨h.1.symm, h.2.symm, hr.1, hr.2⟩
  · cases h
theorem vok_cells {ok : Nat → Bool} {v : Value} (h : vok ok v = true) : vokL ok v.cells.toList = true := by
  cases v with
  | agg cs => simp only [vok] at h; cases cs; simpa [Value.cells, vokA] using h
  | _ => simpa [Value.cells, vokL] using h
theorem Rel.fresh (hR : Rel φ A w) (o : Obj) (x : Nat) : Ext A.ok φ w (upd φ A.next w.heap.size x) (w.alloc o) :=
  ext_upd hR _ _ fun b hb => by
    show (w.heap.push o)[b]? = _
    rw [Array.getElem?_push, if_neg (by have := (hR.fro b hb).1; omega)]
theorem newRow_ok (hR : Rel φ A w) {elem : TypeId} {cs : List Value} {C : Array Value} {n : Nat} {A' : AS} (hv : vokL A.ok cs = true) (hC : RVL φ w cs C.toList)
    (h : anew A (.cells cs elem (0, 0)) = some (n, A')) :
    ∃ φ', (newRow elem C).run P w = .ok ⟨φ'.b n, 0, none⟩ (w.alloc (.cells C elem)) ∧ Rel φ' A' (w.alloc (.cells C elem)) ∧ Runs φ A w φ' A' (w.alloc (.cells C elem)) ∧ Ext A.ok φ w φ' (w.alloc (.cells C elem)) := by
  obtain ⟨rfl, rfl, h1, h2⟩ := anew_some h
  have he := hR.fresh (.cells C elem) 0
  obtain ⟨h3, h4⟩ := hR.alloc (ab := .cells cs elem (0, 0)) (o := .cells C elem) 0 h1 h2 (vokL_mono (fun n hn => put_ok A _ n hn) _ hv) ⟨C, rfl, hC.ext he _ _ hv⟩
  refine ⟨_, ?_, h3, h4, he⟩
  simp only [newRow, Sem.run_bind, run_newObj, Result.andThen_ok, Sem.run_pure, upd_same]
  rfl
theorem RV_ptr0 {n : Nat} : RV φ w (ptr n) (.pointer (some ⟨φ.b n, 0, none⟩)) := RV_ptr.2 rfl
theorem abox_ok (hR : Rel φ A w) {elem : TypeId} {v V r : Value} {A' : AS} (hv : vok A.ok v = true) (hV : RV φ w v V) (h : abox A elem v = some (r, A')) : Turns P φ A w (Instr.box elem V) r A' := by
  unfold abox at h
  split at h
  · rename_i n A1 hn
    simp only [Option.some.injEq, Prod.mk.injEq] at h
    obtain ⟨rfl, rfl⟩ := h
    obtain ⟨φ', h1, h2, h3, _⟩ := newRow_ok (P := P) hR (vok_cells hv) (RV_cells hV) hn
    refine ⟨_, φ', _, ?_, RV_ptr0, h2, h3⟩
    simp [Instr.box, newVar, h1]
  · cases h
theorem bare_ok {ok : Nat → Bool} {v : Value} (h : bare v = true) : vok ok v = true := vok_mono (fun n hn => by simp at hn) v h
theorem aalloc_ok (hR : Rel φ A w) {elem : TypeId} {r : Value} {A' : AS} (h : aalloc P A elem = some (r, A')) : Turns P φ A w (Instr.alloc elem true (.tuple #[])) r A' := by
  unfold aalloc at h
  split at h
  · rename_i z hz
    obtain ⟨h1, h2, _⟩ := zeroOf_ok (w := w) hz
    obtain ⟨V, φ', w', h3, h4⟩ := abox_ok (P := P) hR (bare_ok h2) (RV_self h2) h
    refine ⟨V, φ', w', ?_, h4⟩
    have h3' : ((newVar elem z).run P w).andThen (fun a w' => Result.ok (Value.pointer (some a)) w') = .ok V w' := by simpa [Instr.box] using h3
    simpa [Instr.alloc, h1] using h3'
  · cases h
theorem vokL_set {ok : Nat → Bool} {l : List Value} {v : Value} (h : vokL ok l = true) (hv : vok ok v = true) (i : Nat) : vokL ok (l.set i v) = true := by
  rw [vokL_eq, List.all_eq_true] at *
  intro x hx
  rcases List.mem_or_eq_of_mem_set hx with h1 | h1
  · exact h x h1
  · rw [h1]; exact hv
theorem foldl_vok {ok : Nat → Bool} {off : Nat} : ∀ (l : List Value) (k : Nat) (c : Array Value), vokL ok l = true → vokL ok c.toList = true → vokL ok ((l.zipIdx k).foldl (fun cs (p : Value × Nat) => cs.setIfInBounds (off + p.2) p.1) c).toList = true
  | [], k, c, _, hc => hc
  | v :: l, k, c, h, hc => by
    simp only [vokL, Bool.and_eq_true] at h
    simp only [List.zipIdx_cons, List.foldl_cons]
    refine foldl_vok l (k + 1) _ h.2 ?_
    rw [Array.toList_setIfInBounds]
    exact vokL_set hc h.1 _
theorem fill_vok {ok : Nat → Bool} (place : Nat → Option (Nat × Nat)) : ∀ (l : List (Nat × Value)) (c r : Array Value), (∀ p ∈ l, vok ok p.2 = true) → vokL ok c.toList = true → Instr.fill place c l = some r → vokL ok r.toList = true
  | [], c, r, _, hc, hf => by simp only [Instr.fill, Option.some.injEq] at hf; subst hf; exact hc
  | (i, v) :: l, c, r, hl, hc, hf => by
    simp only [Instr.fill] at hf
    cases hp : place i with
    | none => simp [hp] at hf
    | some q =>
      rw [hp] at hf
      simp only at hf
      split at hf
      · cases hf
      · refine fill_vok place l _ r (fun p hp => hl p (by simp [hp])) ?_ hf
        rw [← Array.foldl_toList, Array.toList_zipIdx]
        exact foldl_vok _ 0 c (vok_cells (hl (i, v) (by simp))) hc
structure Wrote (w w' : World) (b : Nat) (c : Array Value) (e : TypeId) : Prop where
  size : w'.heap.size = w.heap.size
  at_ : w'.heap[b]? = some (.cells c e (0, 0))
  other : ∀ k, k ≠ b → w'.heap[k]? = w.heap[k]?
  os : w'.os = w.os
  tape : w'.tape = w.tape
  out : w'.output = w.output
theorem splice_step (l : List Value) (n : Nat) (v : Value) (vs : List Value) (h : n < l.length) : splice (l.set n v) (n + 1) vs = splice l n (v :: vs) := by
  unfold splice
  have h1 : (l.set n v).take (n + 1) = l.take n ++ [v] := by
    rw [List.take_add_one, List.getElem?_set_self (by omega), List.take_set_of_le (Nat.le_refl _)]; rfl
  have h2 : (l.set n v).drop (n + 1 + vs.length) = l.drop (n + (v :: vs).length) := by
    rw [List.drop_set_of_lt (by omega)]; congr 1; simp; omega
  rw [h1, h2]; simp
theorem run_storeCells {a : Addr} (hs : a.spot = none) : ∀ (vs : List Value) (i : Nat) (w : World) (c : Array Value) (e : TypeId), w.heap[a.block]? = some (.cells c e (0, 0)) → a.off + i + vs.length ≤ c.size → (∀ v ∈ vs, v.oneCell' = true) →
    ∃ w', (storeCells a vs i).run P w = .ok () w' ∧ ∃ c' : Array Value, Wrote w w' a.block c' e ∧ c'.toList = splice c.toList (a.off + i) vs
  | [], i, w, c, e, h, _, _ => ⟨w, rfl, c, ⟨rfl, h, fun _ _ => rfl, rfl, rfl, rfl⟩, by simp [splice]⟩
  | v :: vs, i, w, c, e, h, hl, hv => by
    simp only [List.length_cons] at hl
    have hcell : ∃ u, w.cell? ⟨a.block, a.off + i, none⟩ = some u := by
      simp only [World.cell?, h]
      exact ⟨c[a.off + i]'(by omega), by simp⟩
    obtain ⟨u, hu⟩ := hcell
    have hfr : w.frozen? ⟨a.block, a.off + i, none⟩ = false := by simp [World.frozen?, h]
    have hone : v.oneCell' = true := hv v (by simp)
    simp only [storeCells, Sem.run_bind]
    rw [add_off a i hs, run_store P w _ v _ hone, hu]
    simp only [hfr, Bool.false_eq_true, if_false, Result.andThen_ok]
    have hset : (w.setCell ⟨a.block, a.off + i, none⟩ v).heap[a.block]? = some (.cells (c.setIfInBounds (a.off + i) v) e (0, 0)) := by
      simp [World.setCell, Array.getElem?_modify, h]
    obtain ⟨w', hr, c', hw', hc'⟩ := run_storeCells hs vs (i + 1) (w.setCell ⟨a.block, a.off + i, none⟩ v) (c.setIfInBounds (a.off + i) v) e hset (by simp; omega) (fun x hx => hv x (by simp [hx]))
    refine ⟨w', hr, c', ⟨by rw [hw'.size]; simp [World.setCell], hw'.at_, fun k hk => ?_, hw'.os, hw'.tape, hw'.out⟩, ?_⟩
    · rw [hw'.other k hk]
      simp only [World.setCell, Array.getElem?_modify]
      rw [if_neg (fun e => hk e.symm)]
    · rw [hc', Array.toList_setIfInBounds]
      exact splice_step _ _ _ _ (by simp; omega)
theorem cellv_one {v V : Value} (h : cellv v = true) (hV : RV φ w v V) : V.oneCell' = true := by
  cases v with
  | agg cs => simp [cellv] at h
  | tuple cs => simp [cellv] at h
  | pointer a => cases a <;> (simp only [RV] at hV; subst hV; rfl)
  | slice a l c => cases a <;> (simp only [RV] at hV; subst hV; rfl)
  | map a => cases a <;> (simp only [RV] at hV; subst hV; rfl)
  | chan a => cases a <;> (simp only [RV] at hV; subst hV; rfl)
  | iface t u => simp only [RV] at hV; obtain ⟨U, rfl, _⟩ := hV; rfl
  | func fn first captured =>
    simp only [RV] at hV
    obtain ⟨F, C, _, _, h3⟩ := hV
    cases fn with
    | yield l =>
      simp only [funRel] at h3
      split at h3
      · rcases h3 with ⟨rfl, _⟩ | ⟨a, cap, rfl, _⟩ <;> rfl
      · split at h3
        · obtain ⟨a, rfl, _⟩ := h3; rfl
        · subst h3; rfl
    | _ => simp only [funRel] at h3; subst h3; rfl
  | _ => simp only [RV] at hV; subst hV; rfl
theorem cellv_all {vs Vs : List Value} (h : vs.all cellv = true) (hV : RVL φ w vs Vs) : ∀ V ∈ Vs, V.oneCell' = true := by
  intro V hV'
  obtain ⟨i, hi, rfl⟩ := List.getElem_of_mem hV'
  have hl := hV.length
  have hv : vs[i]? = some (vs[i]'(by omega)) := List.getElem?_eq_getElem (by omega)
  have := ((RVL_iff vs Vs).1 hV).2 i _ _ hv (List.getElem?_eq_getElem hi)
  exact cellv_one (List.all_eq_true.1 h _ (List.getElem_mem _)) this
theorem splice_take (l vs : List Value) (off n : Nat) (h : off + vs.length ≤ n) (hn : n ≤ l.length) : (splice l off vs).take n = splice (l.take n) off vs := by
  unfold splice
  rw [List.take_take, Nat.min_eq_left (by omega), List.drop_take, List.append_assoc, List.append_assoc, List.take_append, List.take_append]
  simp only [List.length_take]
  rw [Nat.min_eq_left (by omega), List.take_of_length_le (by simp; omega), List.take_of_length_le (l := vs) (by omega)]
  congr 3
  omega
theorem splice_length (l vs : List Value) (off : Nat) (h : off + vs.length ≤ l.length) : (splice l off vs).length = l.length := by
  unfold splice; simp; omega
theorem vokL_append {ok : Nat → Bool} {l m : List Value} : vokL ok (l ++ m) = (vokL ok l && vokL ok m) := by rw [vokL_eq, vokL_eq, vokL_eq, List.all_append]
theorem vokL_mem {ok : Nat → Bool} {l : List Value} : vokL ok l = true ↔ ∀ v ∈ l, vok ok v = true := by rw [vokL_eq, List.all_eq_true]
theorem vokL_splice {ok : Nat → Bool} {l vs : List Value} {off : Nat} (hl : vokL ok l = true) (hv : vokL ok vs = true) : vokL ok (splice l off vs) = true := by
  rw [vokL_mem] at *
  intro v hv'
  unfold splice at hv'
  simp only [List.mem_append] at hv'
  rcases hv' with (h | h) | h
  · exact hl v (List.mem_of_mem_take h)
  · exact hv v h
  · exact hl v (List.mem_of_mem_drop h)
theorem RVL.splice' {cs C vs V : List Value} (h : RVL φ w cs C) (k : RVL φ w vs V) (off : Nat) : RVL φ w (Ev.splice cs off vs) (Ev.splice C off V) := h.splice k off
theorem setCells_ok (hR : Rel φ A w) {n off : Nat} {vs Vs : List Value} {A' : AS} (ho : A.ok n = true) (hv : vokL A.ok vs = true) (hV : RVL φ w vs Vs) (h : setCells A n off vs = some A') :
    ∃ w', (storeCells ⟨φ.b n, off, none⟩ Vs 0).run P w = .ok () w' ∧ Rel φ A' w' ∧ Runs φ A w φ A' w' := by
  unfold setCells at h
  split at h
  · rename_i hcell
    have hone := cellv_all hcell hV
    have hlen := hV.length
    cases hg : A.h.get n with
    | none => simp [hg] at h
    | some ab =>
      obtain ⟨hob, hp⟩ := hR.toObj.of_ok hg ho
      have hwf := hR.wf n ab hg hp
      rw [hg] at h
      cases ab with
      | cells cs e fz =>
        simp only at h
        split at h
        · rename_i hc
          obtain ⟨hle, rfl⟩ := hc
          simp only [Option.some.injEq] at h; subst h
          obtain ⟨c, h1, h2⟩ := hob
          have hcl := h2.length
          obtain ⟨w', hr, c', hw', hc'⟩ := run_storeCells (P := P) (a := ⟨φ.b n, off, none⟩) rfl Vs 0 w c e h1 (by simp at hcl; simp; omega) hone
          refine ⟨w', hr, hR.write hg rfl hp (vokL_splice hwf hv) hw'.size ?_ hw'.other hw'.os hw'.tape hw'.out⟩
          exact ⟨c', hw'.at_, by rw [hc']; simpa using h2.splice' hV off⟩
        · cases h
      | grown cs e s =>
        simp only at h
        split at h
        · rename_i hle
          simp only [Option.some.injEq] at h; subst h
          obtain ⟨c, h1, h2, h3⟩ := hob
          obtain ⟨w', hr, c', hw', hc'⟩ := run_storeCells (P := P) (a := ⟨φ.b n, off, none⟩) rfl Vs 0 w c e h1 (by simp; omega) hone
          refine ⟨w', hr, hR.write hg rfl hp (vokL_splice hwf hv) hw'.size ?_ hw'.other hw'.os hw'.tape hw'.out⟩
          have hl : (splice cs off vs).length = cs.length := splice_length _ _ _ hle
          refine ⟨c', hw'.at_, ?_, ?_⟩
          · rw [hl, hc', splice_take _ _ _ _ (by simp; omega) (by simp; omega)]
            simpa using h2.splice' hV off
          · rw [hl]
            have : c'.size = c.size := by
              rw [← Array.length_toList, hc', splice_length _ _ _ (by simp; omega), Array.length_toList]
            rw [this]; exact h3
        · cases h
      | _ => simp at h
  · cases h
theorem astore_ok (hR : Rel φ A w) {t : TypeId} {p Q v V : Value} {A' : AS} (ho : vok A.ok p = true) (hv : vok A.ok v = true) (hp : RV φ w p Q) (hV : RV φ w v V) (h : astore P A t p v = some A') :
    TurnsU P φ A w (Instr.storeAt t Q V) A' := by
  unfold astore at h
  split at h
  · rename_i a k ha hk
    split at h
    · rename_i hsz
      obtain ⟨rfl, hs⟩ := addr_some ha
      obtain ⟨w', h1, h2, h3⟩ := setCells_ok (P := P) hR ho (vok_cells hv) (RV_cells hV) h
      refine ⟨φ, w', ?_, h2, h3⟩
      rw [RV_ptr.1 hp]
      have hsz' : V.cells.size = k := by have := (RV_cells hV).length; simp at this; omega
      have e : renA φ a = ⟨φ.b a.block, a.off, none⟩ := by cases a; simp_all [renA]
      simp only [Instr.storeAt, Instr.sureAddr, Sem.run_bind, Sem.run_pure, Result.andThen_ok, storeVar, run_sizeOf hk, hsz', ne_eq, not_true_eq_false, if_false, e, h1]
    · cases h
  · cases h
theorem abuildSlice_ok (hR : Rel φ A w) {t : TypeId} {len : Nat} {l L : List (Nat × Value)} {v : Value} {A' : AS} (hl : ∀ p ∈ l, vok A.ok p.2 = true) (hL : PL φ w l L) (h : abuildSlice P A t len l = some (v, A')) : Turns P φ A w (Instr.buildSlice t len L.toArray) v A' := by
  unfold abuildSlice at h
  split at h
  · rename_i elem hu
    split at h
    · rename_i s z hs hz
      obtain ⟨h1, h2, _⟩ := zeroOf_ok (w := w) hz
      split at h
      · cases h
      · rename_i hbig
        generalize hzz : (if len * s = 0 then (#[] : Array Value) else z.cells) = zz at h
        have hrow : RVL φ w ((Array.range (len * s)).map (zz[· % zz.size]!)).toList ((Array.range (len * s)).map (zz[· % zz.size]!)).toList ∧ vokL A.ok ((Array.range (len * s)).map (zz[· % zz.size]!)).toList = true := by
          by_cases h0 : len * s = 0
          · rw [h0]; simp [RVL, vokL]
          · rw [if_neg h0] at hzz; subst hzz
            have hb : ∀ v ∈ ((Array.range (len * s)).map (z.cells[· % z.cells.size]!)).toList, bare v = true := by
              intro v hv
              simp only [Array.toList_map, List.mem_map] at hv
              obtain ⟨i, _, rfl⟩ := hv
              have hzc : ∀ u ∈ z.cells.toList, bare u = true := vokL_mem.1 (vok_cells h2)
              by_cases hlt : i % z.cells.size < z.cells.size
              · rw [getElem!_pos z.cells _ hlt]; exact hzc _ (by simp)
              · rw [getElem!_neg z.cells _ hlt]; rfl
            exact ⟨(RVL.bare _ _ (vokL_mem.2 hb)).2 rfl, vokL_mem.2 fun v hv => bare_ok (hb v hv)⟩
        split at h
        · rename_i cells hc
          split at h
          · rename_i n A1 hn
            simp only [Option.some.injEq, Prod.mk.injEq] at h
            obtain ⟨rfl, rfl⟩ := h
            obtain ⟨R, hR1, hR2⟩ := fill_ok _ l L _ _ cells hL hrow.1 hc
            obtain ⟨φ', h4, h5, h6, _⟩ := newRow_ok (P := P) hR (fill_vok _ _ _ _ hl hrow.2 hc) hR2 hn
            refine ⟨.slice (some ⟨φ'.b n, 0, none⟩) len len, φ', _, ?_, RV_slice.2 ?_, h5, h6⟩
            · simp only [Instr.buildSlice, Sem.run_bind, run_underlying hu, Result.andThen_ok, run_sizeOf hs, if_neg (show ¬ len * s > 2 ^ 24 by omega), Sem.run_pure]
              by_cases h0 : len * s = 0
              · rw [if_pos h0] at hzz; subst hzz
                rw [if_pos h0]
                simp only [Sem.run_bind, Sem.run_pure, Result.andThen_ok, hR1, h4]
              · rw [if_neg h0] at hzz; subst hzz
                rw [if_neg h0]
                simp only [Sem.run_bind, h1, Sem.run_pure, Result.andThen_ok, hR1, h4]
            · have : renCap φ' n len = len := by
                unfold renCap; rw [if_pos (by omega)]
              show _ = Value.slice (some (renA φ' ⟨n, 0, none⟩)) len (renCap φ' n len)
              rw [this]; rfl
          · cases h
        · cases h
    · cases h
  · cases h
end Go.Ev
namespace Go.Ev
open Go
variable {P : Program} {φ : Rn} {w : World} {A : AS}
theorem amap_ok (hR : Rel φ A w) {t : TypeId} {v : Value} {A' : AS} (h : aMap none A = some (v, A')) : Turns P φ A w (Instr.makeMap t none) v A' := by
  simp only [aMap] at h
  split at h
  · rename_i n A1 hn
    simp only [Option.some.injEq, Prod.mk.injEq] at h
    obtain ⟨rfl, rfl⟩ := h
    obtain ⟨rfl, rfl, h1, h2⟩ := anew_some hn
    obtain ⟨h3, h4⟩ := hR.alloc (ab := .map [] 0) (o := .map #[] 0) 0 h1 h2 rfl ⟨#[], rfl, rfl⟩
    refine ⟨.map (some w.heap.size), _, _, ?_, ?_, h3, h4⟩
    · simp [Instr.makeMap]
    · simp only [RV, upd_same]
  · cases h
theorem mapAt_ok (hO : ObjRel φ A w) {x X : Value} (ho : vok A.ok x = true) (hx : RV φ w x X) {r clock : Nat} {es : List MapEntry} (h : mapAt A x = some (r, es, clock)) :
    x = .map (some r) ∧ X = .map (some (φ.b r)) ∧ A.h.get r = some (.map es clock) ∧ A.ok r = true ∧ ∃ E : Array MapEntry, w.heap[φ.b r]? = some (.map E clock) ∧ REL φ w es E.toList := by
  unfold mapAt at h
  split at h
  · rename_i r'
    split at h
    · rename_i es' clock' hg
      simp only [Option.some.injEq, Prod.mk.injEq] at h
      obtain ⟨rfl, rfl, rfl⟩ := h
      have hX : X = .map (some (φ.b r')) := by simpa only [RV] using hx
      have := (hO.of_ok hg ho).1
      obtain ⟨E, h1, h2⟩ := this
      exact ⟨rfl, hX, hg, ho, E, h1, h2⟩
    · cases h
  · cases h
theorem run_checkKey {b : Bool} {t : TypeId} {d : TypeDesc} (hu : P.underlying t = some d) (hk : keyKind d = true) (n : Nat) (v : Value) : (Instr.checkKey b (n + 1) t v).run P w = .ok () w := by
  unfold Instr.checkKey
  simp only [Sem.run_bind, run_underlying hu, Result.andThen_ok]
  cases d <;> simp [keyKind] at hk <;> rfl
theorem REL.length {l L : List MapEntry} (h : REL φ w l L) : l.length = L.length := by
  induction l generalizing L with
  | nil => rw [show L = [] from h]
  | cons d l ih => obtain ⟨D, M, rfl, _, h3⟩ := h; simp [ih h3]
theorem REL.get {l L : List MapEntry} (h : REL φ w l L) {i : Nat} {e : MapEntry} (he : l[i]? = some e) : ∃ E, L[i]? = some E ∧ RE φ w e E := by
  induction l generalizing L i with
  | nil => simp at he
  | cons d l ih =>
    obtain ⟨D, M, rfl, h2, h3⟩ := h
    cases i with
    | zero => simp at he; subst he; exact ⟨D, by simp, h2⟩
    | succ i => simp at he ⊢; exact ih h3 he
theorem REL.append {l L m M : List MapEntry} (h : REL φ w l L) (k : REL φ w m M) : REL φ w (l ++ m) (L ++ M) := by
  induction l generalizing L with
  | nil => rw [show L = [] from h]; exact k
  | cons d l ih => obtain ⟨D, M', rfl, h2, h3⟩ := h; exact ⟨D, M' ++ M, rfl, h2, ih h3⟩
theorem REL.set {l L : List MapEntry} (h : REL φ w l L) {e E : MapEntry} (he : RE φ w e E) (i : Nat) : REL φ w (l.set i e) (L.set i E) := by
  induction l generalizing L i with
  | nil => rw [show L = [] from h]; rfl
  | cons d l ih =>
    obtain ⟨D, M, rfl, h2, h3⟩ := h
    cases i with
    | zero => exact ⟨E, M, rfl, he, h3⟩
    | succ i => exact ⟨D, _, rfl, h2, ih h3 i⟩
theorem findNow_ok (d : TypeDesc) (k : Value) : ∀ (l L : List MapEntry) (i : Nat), REL φ w l L → (l.all fun e => bare e.key) = true → ∀ r, Instr.findNow d k l i = some r →
    (r = none ∧ Instr.findNow d k L i = some none) ∨ ∃ j v V e, r = some (j, v) ∧ Instr.findNow d k L i = some (some (j, V)) ∧ RV φ w v V ∧ i ≤ j ∧ l[j - i]? = some e ∧ e.val = v
  | [], L, i, h, _, r, hf => by
    rw [show L = [] from h]
    simp only [Instr.findNow, Option.some.injEq] at hf; subst hf
    exact .inl ⟨rfl, rfl⟩
  | e :: l, L, i, h, hb, r, hf => by
    obtain ⟨E, M, rfl, h2, h3⟩ := h
    simp only [List.all_cons, Bool.and_eq_true] at hb
    have hk : E.key = e.key := (RV.bare _ _ hb.1).1 h2.1
    simp only [Instr.findNow] at hf ⊢
    rw [hk]
    split at hf
    · rename_i hs
      simp only [Option.some.injEq] at hf; subst hf
      exact .inr ⟨i, e.val, E.val, e, rfl, rfl, h2.2.1, Nat.le_refl _, by simp, rfl⟩
    · rename_i hs
      rcases findNow_ok d k l M (i + 1) h3 hb.2 r hf with ⟨h4, h5⟩ | ⟨j, v, V, e', h4, h5, h6, h7, h8, h9⟩
      · exact .inl ⟨h4, h5⟩
      · refine .inr ⟨j, v, V, e', h4, h5, h6, by omega, ?_, h9⟩
        rw [show j - i = (j - (i + 1)) + 1 by omega, List.getElem?_cons_succ]; exact h8
    · cases hf
theorem run_findKey {t : TypeId} {d : TypeDesc} (hu : P.underlying t = some d) {k : Value} {es : List MapEntry} {r : Option (Nat × Value)} (h : Instr.findNow d k es 0 = some r) : (Instr.findKey t k es).run P w = .ok r w := by
  simp [Instr.findKey, run_underlying hu, h]
theorem run_getMap {r clock : Nat} {E : Array MapEntry} (h : w.heap[r]? = some (.map E clock)) : (getObj r).run P w = .ok (.map E clock) w := by simp [getObj, Sem.run, h]
theorem alookup_ok (hO : ObjRel φ A w) {t : TypeId} {x X ix IX v : Value} {ok : Bool} (ho : vok A.ok x = true) (hx : RV φ w x X) (hi : RV φ w ix IX) (h : alookup P A t x ix ok = some v) :
    ∃ V, (Instr.lookup t X IX ok).run P w = .ok V w ∧ RV φ w v V := by
  unfold alookup at h
  split at h
  · rename_i key elem r es clock hu hm
    obtain ⟨rfl, rfl, hg, hok, E, hE, hrel⟩ := mapAt_ok hO ho hx hm
    split at h
    · rename_i kd hkd
      split at h
      · rename_i hc
        obtain ⟨hc1, hc2, hc3⟩ := hc
        rw [(RV.bare ix IX hc2).1 hi]
        split at h
        · rename_i v' b hf
          simp only [Option.some.injEq] at h
          unfold found at hf
          have main : ∃ V, (Instr.lookup t (.map (some (φ.b r))) ix ok).run P w = .ok (if ok then .tuple #[V, .bool b] else V) w ∧ RV φ w v' V := by
            split at hf
            · rename_i j u hfn
              simp only [Option.some.injEq, Prod.mk.injEq] at hf
              obtain ⟨rfl, rfl⟩ := hf
              rcases findNow_ok kd ix es E.toList 0 hrel hc3 _ hfn with ⟨h4, _⟩ | ⟨j', v, V, e', h4, h5, h6, _⟩
              · cases h4
              · cases h4
                refine ⟨V, ?_, h6⟩
                simp only [Instr.lookup, Sem.run_bind, run_underlying hu, Result.andThen_ok, run_getMap hE, Sem.run_pure, run_checkKey hkd hc1, run_findKey hkd h5]
            · rename_i hfn
              split at hf
              · rename_i z hz
                simp only [Option.some.injEq, Prod.mk.injEq] at hf
                obtain ⟨rfl, rfl⟩ := hf
                obtain ⟨hz1, hz2, _⟩ := zeroOf_ok (w := w) hz
                rcases findNow_ok kd ix es E.toList 0 hrel hc3 _ hfn with ⟨_, h5⟩ | ⟨j', v, V, e', h4, _⟩
                · refine ⟨z, ?_, RV_self hz2⟩
                  simp only [Instr.lookup, Sem.run_bind, run_underlying hu, Result.andThen_ok, run_getMap hE, Sem.run_pure, run_checkKey hkd hc1, run_findKey hkd h5, hz1]
                · cases h4
              · cases hf
            · cases hf
          obtain ⟨V, hV1, hV2⟩ := main
          refine ⟨_, hV1, ?_⟩
          subst h
          cases ok with
          | false => exact hV2
          | true => exact ⟨#[V, .bool b], rfl, V, [.bool b], rfl, hV2, .bool b, [], rfl, rfl, rfl⟩
        · cases h
      · cases h
    · cases h
  · cases h
theorem amapUpdate_ok (hR : Rel φ A w) {t : TypeId} {x X k K v V : Value} {A' : AS} (ho : vok A.ok x = true) (hv : vok A.ok v = true) (hx : RV φ w x X) (hk : RV φ w k K) (hV : RV φ w v V) (h : amapUpdate P A t x k v = some A') :
    TurnsU P φ A w (Instr.mapUpdate t X K V) A' := by
  unfold amapUpdate at h
  split at h
  · rename_i kt elem r es clock hu hm
    obtain ⟨rfl, rfl, hg, hok, E, hE, hrel⟩ := mapAt_ok hR.toObj ho hx hm
    have hp := (hR.toObj.of_ok hg hok).2
    have hwf := hR.wf _ _ hg hp
    split at h
    · rename_i kd hkd
      split at h
      · rename_i hc
        obtain ⟨hc1, hc2, hc3⟩ := hc
        rw [(RV.bare k K hc2).1 hk]
        have fin : ∀ (es' : List MapEntry) (E' : Array MapEntry) (clock' : Nat), REL φ w es' E'.toList → abok A.ok (.map es' clock') = true → A' = A.set r (.map es' clock') →
            (Instr.mapUpdate t (.map (some (φ.b r))) k V).run P w = .ok () { w with heap := w.heap.setIfInBounds (φ.b r) (.map E' clock') } → TurnsU P φ A w (Instr.mapUpdate t (.map (some (φ.b r))) k V) A' := by
          intro es' E' clock' h1 h2 h3 h4
          subst h3
          have hlt : φ.b r < w.heap.size := (Array.getElem?_eq_some_iff.1 hE).1
          exact ⟨φ, _, h4, hR.write hg rfl hp h2 (by simp) ⟨E', by simp [hlt], h1⟩ (fun b hb => by simp only [Array.getElem?_setIfInBounds]; rw [if_neg (fun e => hb e.symm)]) rfl rfl rfl⟩
        have hset : ∀ o : Obj, (setObj (φ.b r) o).run P w = .ok () { w with heap := w.heap.setIfInBounds (φ.b r) o } := fun o => by simp [setObj, Sem.run, hE]
        unfold updOf at h
        split at h
        · rename_i j u hfn
          split at h
          · rename_i e he
            split at h
            · rename_i hsame
              simp only [Option.some.injEq] at h
              rcases findNow_ok kd k es E.toList 0 hrel hc3 _ hfn with ⟨h4, _⟩ | ⟨j', v', V', e', h4, h5, h6, h7, h8, h9⟩
              · cases h4
              · cases h4
                obtain ⟨E1, hE1, hre⟩ := hrel.get he
                have hkey : E1.key = e.key := (RV.bare _ _ (List.all_eq_true.1 hc3 e (List.mem_of_getElem? he))).1 hre.1
                have hE1' : E[j]? = some E1 := by simpa using hE1
                refine fin _ (E.modify j fun e => { e with key := k, val := V }) clock ?_ ?_ h.symm ?_
                · have : (E.modify j fun e => { e with key := k, val := V }).toList = E.toList.set j { E1 with key := k, val := V } := by
                    rw [Array.toList_modify]
                    refine List.ext_getElem? fun i => ?_
                    rw [List.getElem?_modify, List.getElem?_set]
                    by_cases e : j = i
                    · subst e
                      have hlt : j < E.toList.length := (List.getElem?_eq_some_iff.1 hE1).1
                      rw [hE1, if_pos rfl, if_pos hlt]; simp
                    · rw [if_neg e]; simp only [if_neg e]; cases E.toList[i]? <;> rfl
                  rw [this]
                  exact hrel.set (show RE φ w { e with key := k, val := v } { E1 with key := k, val := V } from ⟨RV_self hc2, hV, hre.2.2⟩) j
                · simp only [abok, List.all_eq_true, Bool.and_eq_true] at hwf ⊢
                  intro y hy
                  rcases List.mem_or_eq_of_mem_set hy with h1 | h1
                  · exact hwf y h1
                  · rw [h1]; exact ⟨bare_ok hc2, hv⟩
                · simp only [Instr.mapUpdate, Sem.run_bind, run_underlying hu, Result.andThen_ok, run_getMap hE, run_checkKey hkd hc1, run_findKey hkd h5, hE1', Option.map_some, Option.getD_some, hkey, Instr.keyThatStays, hsame, if_true, Sem.run_pure, hset]
            · cases h
          · cases h
        · rename_i hfn
          simp only [Option.some.injEq] at h
          rcases findNow_ok kd k es E.toList 0 hrel hc3 _ hfn with ⟨_, h5⟩ | ⟨j', v', V', e', h4, _⟩
          · refine fin _ (E.push { key := k, val := V, born := clock }) (clock + 1) ?_ ?_ h.symm ?_
            · rw [Array.toList_push]
              exact hrel.append ⟨_, [], rfl, ⟨RV_self hc2, hV, rfl⟩, rfl⟩
            · simp only [abok, List.all_append, List.all_cons, List.all_nil, Bool.and_true] at hwf ⊢
              rw [hwf, bare_ok hc2, hv]; rfl
            · simp only [Instr.mapUpdate, Sem.run_bind, run_underlying hu, Result.andThen_ok, run_getMap hE, run_checkKey hkd hc1, run_findKey hkd h5, hset]
          · cases h4
        · cases h
      · cases h
    · cases h
  · cases h
end Go.Ev
