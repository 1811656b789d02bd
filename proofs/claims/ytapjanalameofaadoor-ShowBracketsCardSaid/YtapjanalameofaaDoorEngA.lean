-- own work: an evaluator of the program's code, and what it answers
import Derived.WalkKit
import Derived.Still
import Derived.Laws.BytesString
import Derived.Laws.Cells
import Derived.Laws.CopyRow
import Derived.Laws.Append
/- The abstract machine: values without addresses, boxes by name; no memory of the model stands in it. -/
set_option linter.unusedVariables false
namespace Go.Eng
/-- what is never written again: a value, by its parts -/
inductive C where
  | v (x : Value)
  | agg (l : List C)
  | sl (l : List C)
  | fp (l : List C)
  | fn (f : Fn) (caps : List C)
  | ifc (t : TypeId) (x : C)
  | mp (ks : List Value) (vs : List C)
  deriving Inhabited
inductive V where
  | c (x : C)
  | tip (s : Option Nat) (l : List C)
  | p (d t off : Nat)
  | agg (l : List V)
  | tup (l : List V)
  | fn (f : Fn) (caps : List V)
  | undef
  | nagg (l : List V)
  deriving Inhabited
abbrev Box := List V
abbrev Fr := List (Nat × Box)
abbrev Mem := List Fr
def C.isAgg : C → Bool | .agg _ => true | _ => false
def C.cells : C → List C | .agg l => l | x => [x]
def V.isC : V → Bool | .c _ => true | _ => false
def V.toC : V → C | .c x => x | _ => default
def V.isUndef : V → Bool | .undef => true | _ => false
def V.isAgg : V → Bool | .c x => x.isAgg | .agg _ => true | .nagg _ => true | _ => false
def V.isTup : V → Bool | .tup _ => true | .undef => true | _ => false
def mkAgg (l : List V) : V := if l.all V.isC then .c (.agg (l.map V.toC)) else .agg l
/-- a cell that nobody writes behind: clean, or a slice that is full -/
def V.full : V → Bool | .c _ => true | .tip none _ => true | _ => false
def V.full1 : V → V | .tip _ l => .c (.sl l) | x => x
/-- an aggregate, some of whose cells are known to be full slices -/
def mkNagg (l : List V) : V := if l.all V.isC then .c (.agg (l.map V.toC)) else if l.all V.full then .nagg l else .agg (l.map V.full1)
/-- a value without the right to append -/
def V.strip : V → V | .tip _ l => .c (.sl l) | .nagg l => .c (.agg (l.map fun x => x.full1.toC)) | x => x
def V.cells : V → List V | .c x => x.cells.map .c | .agg l => l | .nagg l => l.map V.full1 | x => [x.strip]
def V.stored : V → List V
  | .tip s l => [.tip s l]
  | .nagg l => l
  | v => v.cells.map V.strip
def lk : Fr → Nat → Option Box
  | [], _ => none
  | (k, b) :: r, t => if t = k then some b else lk r t
def upd : Fr → Nat → Box → Fr
  | [], t, b => [(t, b)]
  | (k, x) :: r, t, b => if t = k then (k, b) :: r else (k, x) :: upd r t b
def look : Mem → Nat → Nat → Option Box
  | [], _, _ => none
  | f :: r, d, t => if d = r.length then lk f t else look r d t
def put : Mem → Nat → Nat → Box → Mem
  | [], _, _, _ => []
  | f :: r, d, t, b => if d = r.length then upd f t b :: r else f :: put r d t b
def setL : List V → Nat → List V → List V
  | l, _, [] => l
  | l, o, x :: r => setL (l.set o x) (o + 1) r
mutual
def V.upTo (d : Nat) : V → Bool
  | .p d' _ _ => d' < d
  | .agg l => upToL d l
  | .tup l => upToL d l
  | .fn _ l => upToL d l
  | .nagg l => upToL d l
  | _ => true
def upToL (d : Nat) : List V → Bool
  | [] => true
  | x :: l => x.upTo d && upToL d l
end
mutual
def V.among (d : Nat) (ks : List Nat) : V → Bool
  | .p d' t _ => if d' = d then ks.contains t else true
  | .agg l => amongL d ks l
  | .tup l => amongL d ks l
  | .fn _ l => amongL d ks l
  | .nagg l => amongL d ks l
  | _ => true
def amongL (d : Nat) (ks : List Nat) : List V → Bool
  | [] => true
  | x :: l => x.among d ks && amongL d ks l
end
/-! ### types -/
structure FI where
  off : Nat
  size : Nat
  agg : Bool
inductive K where
  | int (k : IntKind) | str | bool | slice (e : TypeId) | struct (fs : List FI) | arr (n : Nat) (e : TypeId) | ptr | map (kd : TypeDesc) (e : TypeId) | other
structure TyI where
  size : Nat
  bytes : Nat
  agg : Bool
  zero : List V
  kind : K
def isAggD : TypeDesc → Bool | .struct _ => true | .array _ _ => true | _ => false
def constV : Value → Option V
  | .slice none 0 0 => some (.tip none [])
  | .bool b => some (.c (.v (.bool b)))
  | .int k n => some (.c (.v (.int k n)))
  | .string s => some (.c (.v (.string s)))
  | .pointer none => some (.c (.v (.pointer none)))
  | .map none => some (.c (.v (.map none)))
  | .nilFunc => some (.c (.v .nilFunc))
  | .nilIface => some (.c (.v .nilIface))
  | _ => none
def constA : Value → Option V
  | .agg cs => (cs.toList.mapM constV).map fun l => mkAgg (l.map V.strip)
  | v => constV v
def fiOf (P : Program) (f : Field) : Option FI :=
  match P.info? f.type, P.underlying f.type with
  | some i, some u => if i.size = 0 then none else some ⟨f.offset, i.size, isAggD u⟩
  | _, _ => none
def kindOf (P : Program) : TypeDesc → Option K
  | .int k => some (.int k)
  | .string => some .str
  | .bool => some .bool
  | .slice e => some (.slice e)
  | .struct fs => (fs.toList.mapM (fiOf P)).map .struct
  | .array n e => some (.arr n e)
  | .pointer _ => some .ptr
  | .map k e => match P.underlying k with
    | some (.int q) => some (.map (.int q) e)
    | some .string => some (.map .string e)
    | _ => some .other
  | _ => some .other
def tyOf (P : Program) (t : TypeId) : Option TyI :=
  match P.info? t, P.underlying t with
  | some i, some u =>
    match i.zero with
    | some z => match z.cells.toList.mapM constV, kindOf P u with
      | some zc, some k => if zc.length = i.size then some { size := i.size, bytes := i.bytes, agg := isAggD u, zero := zc, kind := k } else none
      | _, _ => none
    | none => none
  | _, _ => none
/-! ### what is told besides: which temporaries take the right to append, the variables of the packages, the calls that may write -/
structure Ann where
  tk : Nat → Nat → Bool
  ta : Nat → Nat → Bool
  lc : Nat → Nat → Bool
  fn : Nat → Bool
  frz : Nat → Nat → Bool
  own : Nat → Nat → Option Nat
  away : Nat → Nat → List Nat
  glob : Nat → Option (List C)
  ext : Nat → Option (List C → Option V)
  laid : World → Prop
/-! ### operations -/
def ofCells (agg : Bool) (l : List V) : Option V :=
  if agg then some (mkAgg l) else match l with | [x] => some x.strip | _ => none
def intBin (op : BinOp) (k : IntKind) (a b : Int) : Option Value :=
  match op with
  | .add => some (.int k (k.wrap (a + b)))
  | .sub => some (.int k (k.wrap (a - b)))
  | .mul => some (.int k (k.wrap (a * b)))
  | .quo => if b = 0 then none else some (.int k (k.wrap (a.tdiv b)))
  | .rem => if b = 0 then none else some (.int k (a.tmod b))
  | .eql => some (.bool (a == b))
  | .neq => some (.bool (a != b))
  | .lss => some (.bool (decide (a < b)))
  | .leq => some (.bool (decide (a ≤ b)))
  | .gtr => some (.bool (decide (a > b)))
  | .geq => some (.bool (decide (a ≥ b)))
  | _ => none
def strBin (op : BinOp) (a b : ByteArray) : Option Value :=
  match op with
  | .add => if a.size + b.size ≤ 9223372036854775807 then some (.string (a ++ b)) else none
  | .eql => some (.bool (a.toList == b.toList))
  | .neq => some (.bool !(a.toList == b.toList))
  | .lss => some (.bool (Op.bytesLess a.toList b.toList))
  | _ => none
def binC (op : BinOp) : Value → Value → Option Value
  | .int k a, .int k' b =>
    match op with
    | .shl => if b < 0 then none else some (.int k (k.wrap (a * 2 ^ (min b.toNat k.bits))))
    | .shr => if b < 0 then none else some (.int k (a.fdiv (2 ^ (min b.toNat k.bits))))
    | _ => if k = k' then intBin op k a b else none
  | .string a, .string b => strBin op a b
  | _, _ => none
def unC (op : UnOp) : Value → Option Value
  | .int k n => match op with | .neg => some (.int k (k.wrap (0 - n))) | .xor => some (.int k (k.wrap (((BitVec.ofInt k.bits (if k.signed then -1 else k.max)) ^^^ (BitVec.ofInt k.bits n)).toNat : Int))) | _ => none
  | .bool b => match op with | .not => some (.bool !b) | _ => none
  | _ => none
def asBool? : Option V → Option Bool | some (.c (.v (.bool b))) => some b | _ => none
def asInt? : Option V → Option Int | some (.c (.v (.int _ n))) => some n | _ => none
def fillV (place : Nat → Option (Nat × Nat)) : List V → List (Nat × V) → Option (List V)
  | l, [] => some l
  | l, (i, x) :: r =>
    match place i with
    | some (o, s) => if x.cells.length = s ∧ o + s ≤ l.length then fillV place (setL l o x.cells) r else none
    | none => none
def rdParts (rd : Operand → Option V) : List (Nat × Operand) → Option (List (Nat × V))
  | [] => some []
  | (i, x) :: r => match rd x, rdParts rd r with | some v, some l => some ((i, v) :: l) | _, _ => none
def rdAll (rd : Operand → Option V) : List Operand → Option (List V)
  | [] => some []
  | x :: r => match rd x, rdAll rd r with | some v, some l => some (v :: l) | _, _ => none
def slLen : V → Option (List C) | .c (.sl l) => some l | .tip _ l => some l | _ => none
def bnd (rd : Operand → Option V) (d : Int) : Option Operand → Option Int
  | none => some d
  | some x => asInt? (rd x)
def sliceV (rd : Operand → Option V) (x : V) (lo hi mx : Option Operand) : Option V :=
  match x with
  | .c (.v (.string s)) =>
    match mx with
    | some _ => none
    | none => match bnd rd 0 lo, bnd rd s.size hi with
      | some l, some h => if 0 ≤ l ∧ l ≤ h ∧ h ≤ s.size then some (.c (.v (.string (s.extract l.toNat h.toNat)))) else none
      | _, _ => none
  | .c (.sl xs) =>
    match mx with
    | none => match bnd rd 0 lo, bnd rd xs.length hi with
      | some l, some h => if 0 ≤ l ∧ l ≤ h ∧ h ≤ xs.length then some (.c (.sl ((xs.drop l.toNat).take (h.toNat - l.toNat)))) else none
      | _, _ => none
    | some m => match bnd rd 0 lo, bnd rd xs.length hi, asInt? (rd m) with
      | some l, some h, some q => if 0 ≤ l ∧ l ≤ h ∧ h ≤ xs.length ∧ q = h ∧ hi.isSome then some (.tip none ((xs.drop l.toNat).take (h.toNat - l.toNat))) else none
      | _, _, _ => none
  | _ => none
def minmax (isMax : Bool) : List V → Option V
  | [.c (.v (.int k a)), .c (.v (.int k' b))] => if k = k' then some (.c (.v (.int k (if isMax then (if b > a then b else a) else (if b < a then b else a))))) else none
  | _ => none
def headOK (s : Nat) : List C → Bool | [] => true | x :: _ => x.cells.length == s
/-- the zero of a type of one cell -/
def zeroC (P : Program) (e : TypeId) : Option Value :=
  match (P.info? e).bind (·.zero) with
  | some z => match constV z with | some (.c (.v z')) => some z' | _ => none
  | none => none
/-- the entry of a key, the first one -/
def findC (kd : TypeDesc) (k : Value) : List Value → List C → Option (Option C)
  | [], _ => some none
  | x :: ks, vs => match Instr.sameNow kd k x with
    | some true => match vs with | y :: _ => some (some y) | [] => none
    | some false => findC kd k ks (vs.drop 1)
    | none => none
/-- bytes, one by one -/
def bytesC : List C → Option (List Int)
  | [] => some []
  | .v (.int .u8 n) :: r => (bytesC r).map fun l => n :: l
  | _ => none
def isU8 : Option K → Bool | some (.int .u8) => true | _ => false
def pureOp (P : Program) (rd : Operand → Option V) (o : Oper) : Option V :=
  match o.op with
  | .move x | .assign x => rd x
  | .pick c a b => match asBool? (rd c) with | some q => if q then rd a else rd b | none => none
  | .build t parts =>
    match tyOf P t, rdParts rd parts.toList with
    | some i, some ps =>
      match i.kind with
      | .struct fs => if ps.all (fun q => !q.2.isTup) then (fillV (fun j => (fs[j]?).map fun f => (f.off, f.size)) i.zero ps).map mkNagg else none
      | _ => none
    | _, _ => none
  | .binOp op t x y _ =>
    match rd x, rd y with
    | some (.c (.v (.bool a))), some (.c (.v (.bool b))) => match (tyOf P t).map TyI.kind, op with
      | some .bool, .eql => some (.c (.v (.bool (a == b))))
      | some .bool, .neq => some (.c (.v (.bool !(a == b))))
      | _, _ => none
    | some (.c (.v a)), some (.c (.v b)) => (binC op a b).map fun r => .c (.v r)
    | _, _ => none
  | .unOp op _ x => match rd x with | some (.c (.v a)) => (unC op a).map fun r => .c (.v r) | _ => none
  | .convert s t x =>
    match rd x, tyOf P s, tyOf P t with
    | some (.c (.v (.int _ n))), some i, some j => match i.kind, j.kind with | .int _, .int k => some (.c (.v (.int k (k.wrap n)))) | _, _ => none
    | some (.c (.v (.string b))), some i, some j => match i.kind, j.kind with | .str, .str => some (.c (.v (.string b))) | _, _ => none
    | some (.c (.sl l)), some i, some j => match i.kind, j.kind with
      | .slice e, .str => if isU8 ((tyOf P e).map TyI.kind) then (bytesC l).map fun ns => .c (.v (.string (ns.foldl (fun r n => r.push (UInt8.ofNat n.toNat)) ByteArray.empty))) else none
      | _, _ => none
    | _, _, _ => none
  | .makeFunc f first caps => if first.toList.isEmpty then (rdAll rd caps.toList).map fun l => if l.all V.isC then .c (.fn f (l.map V.toC)) else .fn f l else none
  | .slice t x lo hi mx =>
    match rd x, tyOf P t with
    | some v, some i => match i.kind, v with | .str, .c (.v (.string _)) => sliceV rd v lo hi mx | .slice e, .c (.sl xs) => (match tyOf P e with | some ei => if headOK ei.size xs then sliceV rd v lo hi mx else none | none => none) | _, _ => none
    | _, _ => none
  | .fieldAddr t x f =>
    match rd x, tyOf P t with
    | some v, some i =>
      match i.kind with
      | .struct fs => match fs[f]? with
        | some fi => match v with
          | .p d b off => some (.p d b (off + fi.off))
          | .c (.fp l) => some (.c (.fp (l.drop fi.off)))
          | _ => none
        | none => none
      | _ => none
    | _, _ => none
  | .field t x f =>
    match rd x, tyOf P t with
    | some v, some i =>
      match i.kind with
      | .struct fs => match fs[f]? with
        | some fi => if v.isAgg ∧ fi.off + fi.size ≤ v.cells.length then ofCells fi.agg ((v.cells.drop fi.off).take fi.size) else none
        | none => none
      | _ => none
    | _, _ => none
  | .indexAddr t x i =>
    match rd x, asInt? (rd i), tyOf P t with
    | some (.c (.sl l)), some n, some ti =>
      match ti.kind with
      | .slice e => match tyOf P e with
        | some ei => if 0 ≤ n then match l[n.toNat]? with | some y => if y.cells.length = ei.size then some (.c (.fp y.cells)) else none | none => none else none
        | none => none
      | _ => none
    | some v, some n, some ti =>
      match ti.kind with
      | .arr k e => match tyOf P e with
        | some ei => if 0 ≤ n ∧ n < (k : Int) then (match v with | .c (.fp l) => some (.c (.fp (l.drop (n.toNat * ei.size)))) | .p d b off => some (.p d b (off + n.toNat * ei.size)) | _ => none) else none
        | none => none
      | _ => none
    | _, _, _ => none
  | .index t x i =>
    match rd x, asInt? (rd i), tyOf P t with
    | some (.c (.v (.string s))), some n, some ti => match ti.kind with
      | .str => if 0 ≤ n then (s[n.toNat]?).map fun b => .c (.v (.int .u8 b.toNat)) else none
      | _ => none
    | _, _, _ => none
  | .extract x i => match rd x with | some (.tup l) => (l[i]?).map V.strip | _ => none
  | .nilCheck x => match rd x with
    | some (.p d t o) => some (.p d t o)
    | some (.c (.fp l)) => some (.c (.fp l))
    | _ => none
  | .load t a => match rd a, tyOf P t with
    | some (.c (.fp l)), some i => if i.size ≤ l.length then ofCells i.agg ((l.take i.size).map .c) else none
    | _, _ => none
  | .lookup t x i ok =>
    match rd x, rd i, tyOf P t with
    | some (.c (.mp ks vs)), some (.c (.v k)), some ti =>
      match ti.kind with
      | .map kd e => match zeroC P e, findC kd k ks vs with
        | some z, some (some y) => if y.isAgg then none else some (if ok then .tup [.c y, .c (.v (.bool true))] else .c y)
        | some z, some none => some (if ok then .tup [.c (.v z), .c (.v (.bool false))] else .c (.v z))
        | _, _ => none
      | _ => none
    | _, _, _ => none
  | .buildSlice t n parts =>
    match tyOf P t, rdParts rd parts.toList with
    | some i, some ps => match i.kind with
      | .slice e => match tyOf P e with
        | some ei =>
          if ps.length = n ∧ n * ei.size ≤ 16777216 ∧ (ps.map (·.1)) = List.range n ∧ ps.all (fun q => q.2.isC && decide (q.2.toC.cells.length = ei.size) && (q.2.isAgg == ei.agg)) then some (.tip none (ps.map fun q => q.2.toC)) else none
        | none => none
      | _ => none
    | _, _ => none
  | .call c =>
    match c.callee, rdAll rd c.args.toList with
    | .builtin .len, some [v] => match v, (c.argTypes[0]?).bind (tyOf P) with
      | .c (.v (.string s)), some i => match i.kind with | .str => some (.c (.v (.int .i64 s.size))) | _ => none
      | .c (.sl l), some i => match i.kind with | .slice _ => some (.c (.v (.int .i64 l.length))) | _ => none
      | _, _ => none
    | .builtin .min, some l => minmax false l
    | .builtin .max, some l => minmax true l
    | _, _ => none
  | _ => none
def rtAll (g : Nat) (A : Ann) (rd rt : Operand → Option V) : Nat → List Operand → Option (List V)
  | _, [] => some []
  | i, x :: r => match (if A.ta g i then rt x else rd x), rtAll g A rd rt (i + 1) r with | some v, some l => some (v :: l) | _, _ => none
def opTmps : List Operand → List Tmp
  | [] => []
  | .tmp t :: r => t :: opTmps r
  | _ :: r => opTmps r
def takesArgs (A : Ann) (g : Nat) : Nat → List Operand → List Tmp
  | _, [] => []
  | i, x :: r => (if A.ta g i then opTmps [x] else []) ++ takesArgs A g (i + 1) r
def nodupB : List Nat → Bool
  | [] => true
  | x :: l => !l.contains x && nodupB l
/-- the temporaries whose right to append an operation takes -/
def takes (A : Ann) (f : Nat) (o : Oper) : List Tmp :=
  match o.op with
  | .assign x => opTmps [x]
  | .move x => match o.dst with | some d => if A.tk f d then opTmps [x] else [] | none => []
  | .store _ _ x => opTmps [x]
  | .call c => match c.callee with
    | .builtin .append => match c.args.toList with | x :: _ => opTmps [x] | [] => []
    | .value (.func g) => takesArgs A g 0 c.args.toList
    | _ => []
  | _ => []
structure St where
  tm : List V
  m : Mem
def rawT (tm : List V) (t : Nat) : V := tm.getD t .undef
def raw (A : Ann) (tm : List V) : Operand → Option V
  | .tmp t => match rawT tm t with | .undef => none | x => some x
  | .const v => constA v
  | .func f => some (.c (.fn (.func f) []))
  | .global g => (A.glob g).map fun l => .c (.fp l)
def rdOf (A : Ann) (tm : List V) (x : Operand) : Option V := (raw A tm x).map V.strip
def stripT (tm : List V) : List Tmp → List V
  | [] => tm
  | t :: r => stripT (tm.set t (rawT tm t).strip) r
def putT (tm : List V) : Option Tmp → V → List V
  | some d, v => tm.set d v
  | none, _ => tm
abbrev CallF := Nat → FuncId → List V → Mem → Option (V × Mem)
/-- a call; where nothing may be written, with all boxes for reading alone -/
def callQ (cl : CallF) (ro : Nat) (strict : Bool) (g : FuncId) (vs : List V) (m : Mem) : Option (V × Mem) :=
  if strict then (match cl m.length g vs m with | some (r, _) => some (r, m) | none => none) else cl ro g vs m
def tip? : V → Option (Option Nat × List C) | .tip os l => some (os, l) | _ => none
def appendV (P : Program) (rd rt : Operand → Option V) (args : List Operand) (tys : List TypeId) : Option V :=
  match args, tys with
  | [s, x], [t, t'] =>
    match (rt s).bind tip?, (rd x).bind slLen, tyOf P t, tyOf P t' with
    | some (os, l), some l2, some i, some i' =>
      match i.kind, i'.kind with
      | .slice e, .slice _ => match tyOf P e with
        | some ei =>
          if (os = none ∨ os = some ei.size) ∧ 0 < ei.size ∧ headOK ei.size l ∧ headOK ei.size l2 ∧ (l.length + l2.length) * ei.bytes ≤ 140737488355328 ∧ l.length + l2.length ≤ 9223372036854775807 then some (.tip (some ei.size) (l ++ l2)) else none
        | none => none
      | _, _ => none
    | _, _, _, _ => none
  | _, _ => none
/-- what an operation yields, and the boxes behind it; st: nothing may be written -/
def core (P : Program) (A : Ann) (cl : CallF) (ro f : Nat) (draw strict : Bool) (o : Oper) (rd rt : Operand → Option V) (m : Mem) : Option (V × Mem) :=
  match o.op with
  | .assign x => (rt x).map fun v => (v, m)
  | .move x => match o.dst with
    | some d => (if A.tk f d then rt x else rd x).map fun v => (v, m)
    | none => none
  | .load t a =>
    match rd a with
    | some (.p d b off) =>
      match look m d b, tyOf P t with
      | some cs, some i =>
        if off + i.size ≤ cs.length then
          match o.dst with
          | some dst =>
            if A.tk f dst && !i.agg then
              if strict then none else
              match cs[off]? with
              | some x => if ro ≤ d then some (x, put m d b (cs.set off x.strip)) else none
              | none => none
            else (ofCells i.agg (((cs.drop off).take i.size).map V.strip)).map fun v => (v, m)
          | none => none
        else none
      | _, _ => none
    | _ => (pureOp P rd o).map fun v => (v, m)
  | .store t a x =>
    if strict then none else
    match rd a, rt x, tyOf P t with
    | some (.p d b off), some v, some i =>
      match look m d b with
      | some cs =>
        if v.stored.length = i.size ∧ off + i.size ≤ cs.length ∧ upToL (d + 1) v.stored ∧ v.isTup = false ∧ ro ≤ d then some (.tup [], put m d b (setL cs off v.stored)) else none
      | none => none
    | _, _, _ => none
  | .alloc t =>
    match o.dst, m with
    | some d, fr :: r =>
      if draw then some (.p r.length d 0, m)
      else match lk fr d, tyOf P t with
        | none, some i => some (.p r.length d 0, upd fr d i.zero :: r)
        | _, _ => none
    | _, _ => none
  | .box t x =>
    if strict || draw then none else
    match o.dst, m, rd x, tyOf P t with
    | some d, fr :: r, some v, some i =>
      if A.frz f d then (match v with | .c y => if y.cells.length = i.size then some (.c (.fp y.cells), m) else none | _ => none) else
      match lk fr d with
      | none => match rt x with
        | some (.nagg l) => if l.length = i.size then some (.p r.length d 0, upd fr d l :: r) else none
        | some _ => if v.cells.length = i.size ∧ upToL (r.length + 1) v.cells ∧ v.isTup = false then some (.p r.length d 0, upd fr d (v.cells.map V.strip) :: r) else none
        | none => none
      | some _ => none
    | _, _, _, _ => none
  | .call c =>
    match c.callee with
    | .builtin .append => (appendV P rd rt c.args.toList c.argTypes.toList).map fun v => (v, m)
    | .value (.func g) =>
      if nodupB (takesArgs A g 0 c.args.toList) = false then none else
      match rtAll g A rd rt 0 c.args.toList with
      | some vs => callQ cl ro strict g vs m
      | none => none
    | .value x =>
      match rd x, rdAll rd c.args.toList with
      | some (.c (.fn (.func g) caps)), some vs => callQ cl ro strict g (vs ++ caps.map .c) m
      | some (.fn (.func g) caps), some vs => callQ cl ro strict g (vs ++ caps.map V.strip) m
      | _, _ => none
    | .builtin _ => (pureOp P rd o).map fun v => (v, m)
    | _ => none
  | _ => (pureOp P rd o).map fun v => (v, m)
/-- does the guard of an operation want it? -/
def wantA (ops : Array Oper) (o : Oper) (tm : List V) : Option Bool :=
  match o.guard with
  | none => some true
  | some (j, want) =>
    match (ops[j]?).bind (·.dst) with
    | none => some false
    | some d => match rawT tm d with
      | .c (.v (.bool b)) => some (b == want)
      | .tup [] => some false
      | _ => none
/-- an operation that may write, in a region that draws its order -/
def loud (A : Ann) (f : Nat) (o : Oper) : Bool := match o.op with | .store .. => true | .load .. => (match o.dst with | some d => A.tk f d | none => false) | .call _ => (match o.dst with | some d => A.lc f d | none => false) | _ => false
/-- a store into a box of this frame that is known by name, and a load that stays away from such a box -/
def chkO (A : Ann) (f : Nat) (o : Oper) (rd : Operand → Option V) (n : Nat) : Bool :=
  match o.op with
  | .load _ (.tmp t) => match rd (.tmp t) with | some (.p d b _) => !(d + 1 == n && (A.away f t).contains b) | _ => true
  | .store _ (.tmp t) _ => match A.own f t with
    | some r => match rd (.tmp t) with | some (.p d b _) => d + 1 == n && b == r | _ => false
    | none => true
  | _ => true
def loudL (A : Ann) (f : Nat) (o : Oper) : Bool := match o.dst with | some d => A.tk f d | none => false
def sepB (A : Ann) (f : Nat) (x y : Oper) : Bool :=
  match x.op, y.op with
  | .load _ (.tmp t), .store _ (.tmp s) _ => match A.own f s with | some r => (A.away f t).contains r && !loudL A f x | none => false
  | .store _ (.tmp s) _, .load _ (.tmp t) => match A.own f s with | some r => (A.away f t).contains r && !loudL A f y | none => false
  | _, _ => false
/-- two loads, one of which takes the right to append with it -/
def ldB (A : Ann) (f : Nat) (x y : Oper) : Bool :=
  match x.op, y.op with
  | .load _ _, .load _ _ => !loud A f x || !loud A f y
  | _, _ => false
def step (P : Program) (A : Ann) (cl : CallF) (ro f : Nat) (draw : Bool) (ops : Array Oper) (o : Oper) (st : St) : Option St :=
  match wantA ops o st.tm with
  | some true =>
    if (draw && !chkO A f o (rdOf A st.tm) st.m.length) = true then none else
    match core P A cl ro f draw (draw && !loud A f o) o (rdOf A st.tm) (raw A st.tm) st.m with
    | some (v, m') => some ⟨putT (stripT st.tm (takes A f o)) o.dst v, m'⟩
    | none => none
  | some false => some ⟨putT st.tm o.dst (.tup []), st.m⟩
  | none => none
def steps (P : Program) (A : Ann) (cl : CallF) (ro f : Nat) (draw : Bool) (ops : Array Oper) : List Oper → St → Option St
  | [], st => some st
  | o :: r, st => match step P A cl ro f draw ops o st with | some st' => steps P A cl ro f draw ops r st' | none => none
/-- the boxes that a region which draws its order lays: ahead of all -/
def lays : List Oper → List (Nat × TypeId)
  | [] => []
  | o :: r => match o.op, o.dst with | .alloc t, some d => (d, t) :: lays r | _, _ => lays r
def layAll (P : Program) : List (Nat × TypeId) → Fr → Option Fr
  | [], fr => some fr
  | (d, t) :: r, fr => match lk fr d, tyOf P t with
    | none, some i => layAll P r (upd fr d i.zero)
    | _, _ => none
def region (P : Program) (A : Ann) (cl : CallF) (ro f : Nat) (draw : Bool) (ops : Array Oper) (st : St) : Option St :=
  if draw then
    match st.m with
    | fr :: r => match layAll P (lays ops.toList) fr with
      | some fr' => steps P A cl ro f true ops ops.toList ⟨st.tm, fr' :: r⟩
      | none => none
    | [] => none
  else steps P A cl ro f false ops ops.toList st
inductive Ex where
  | n | exit (id : Nat) | ret
def keep : List V → List V → List V
  | _, [] => []
  | [], _ :: s => .undef :: keep [] s
  | .undef :: r, _ :: s => .undef :: keep r s
  | _ :: r, x :: s => x :: keep r s
def keepF (ks : List Nat) : Fr → Fr
  | [] => []
  | (t, b) :: r => if ks.contains t then (t, b) :: keepF ks r else keepF ks r
def amongF (d : Nat) (ks : List Nat) : Fr → Bool
  | [] => true
  | (_, b) :: r => amongL d ks b && amongF d ks r
def dropT (d : Nat) (ks : List Nat) : List V → List V
  | [] => []
  | x :: l => (if x.among d ks then x else .undef) :: dropT d ks l
/-- behind a round: what the round laid is gone -/
def clean (st st1 : St) : Option St :=
  match st.m, st1.m with
  | fr :: r, fr1 :: r1 =>
    let ks := fr.map (·.1); let tm := dropT r1.length ks (keep st.tm st1.tm); let fr2 := keepF ks fr1
    if amongF r1.length ks fr2 then some ⟨tm, fr2 :: r1⟩ else none
  | _, _ => none
def loop (body : St → Option (Ex × St)) : Nat → St → Option (Ex × St)
  | 0, _ => none
  | k + 1, st => match body st with
    | some (.n, st1) => match clean st st1 with | some st2 => loop body k st2 | none => none
    | r => r
def evC (P : Program) (A : Ann) (cl : CallF) (ro f k : Nat) : Code → St → Option (Ex × St)
  | .skip, st => some (.n, st)
  | .label _, st => some (.n, st)
  | .region _ ops draw, st => (region P A cl ro f draw ops st).map fun s => (.n, s)
  | .seq a b, st => match evC P A cl ro f k a st with
    | some (.n, st1) => evC P A cl ro f k b st1
    | r => r
  | .cond c a b, st => match asBool? (rdOf A st.tm c) with
    | some q => if q then evC P A cl ro f k a st else evC P A cl ro f k b st
    | none => none
  | .block id b, st => match evC P A cl ro f k b st with
    | some (.exit id', st1) => if id' = id then some (.n, st1) else some (.exit id', st1)
    | r => r
  | .loop b, st => loop (evC P A cl ro f k b) k st
  | .exit id, st => some (.exit id, st)
  | .ret, st => some (.ret, st)
  | _, _ => none
def resOne (P : Program) (st : St) : ResultVar → Option V
  | .tmp t => some (rawT st.tm t)
  | .cell a t => match rawT st.tm a with
    | .p d b off => match look st.m d b, tyOf P t with
      | some cs, some i => if off + i.size ≤ cs.length then ofCells i.agg (((cs.drop off).take i.size).map V.strip) else none
      | _, _ => none
    | _ => none
def resAll (P : Program) (st : St) : List ResultVar → Option (List V)
  | [] => some []
  | x :: r => match resOne P st x, resAll P st r with | some v, some l => some (v :: l) | _, _ => none
def resV : List V → V
  | [x] => x
  | l => .tup (l.map V.strip)
def finish (P : Program) (fn : Func) (r : Option (Ex × St)) : Option (V × Mem) :=
  match r with
  | some (.n, st) | some (.ret, st) =>
    match resAll P st fn.results.toList, st.m with
    | some l, _ :: r => if (resV l).upTo r.length && !(resV l).isUndef then some (resV l, r) else none
    | _, _ => none
  | _ => none
def evF (P : Program) (A : Ann) : Nat → CallF
  | 0 => fun _ _ _ _ => none
  | k + 1 => fun ro g vs m =>
    if A.fn g = false then none else
    match A.ext g with
    | some h => if vs.all V.isC then (match h (vs.map V.toC) with | some r => if r.upTo 0 then some (r, m) else none | none => none) else none
    | none => match P.funcs[g]? with
    | some fn => match fn.body with
      | some c => if vs.length ≤ fn.ntmps then finish P fn (evC P A (evF P A k) ro g k c ⟨vs ++ List.replicate (fn.ntmps - vs.length) .undef, [] :: m⟩) else none
      | none => none
    | none => none
end Go.Eng
/- What the machine's values have to do with the model's. -/
set_option linter.unusedVariables false
set_option linter.unusedSimpArgs false
set_option linter.unusedSectionVars false
namespace Go.Eng
open Go.RowKit
def aggV : Value → Bool | .agg _ => true | _ => false
structure Fz where
  c : Nat → Nat → Option Value
  m : Nat → Option (Array MapEntry)
instance : CoeFun Fz (fun _ => Nat → Nat → Option Value) := ⟨Fz.c⟩
structure Fz.le (F F' : Fz) : Prop where
  c : ∀ b i v, F b i = some v → F' b i = some v
  m : ∀ b es, F.m b = some es → F'.m b = some es
def At (F : Fz) (b o : Nat) (vs : List Value) : Prop := ∀ j u, vs[j]? = some u → F b (o + j) = some u
mutual
def RC (F : Fz) : C → List Value → Prop
  | .v x, cs => cs = [x] ∧ x.oneCell' = true
  | .agg l, cs => RL F l cs
  | .sl l, cs => ∃ a n c, cs = [.slice a n c] ∧ n = l.length ∧ n ≤ c ∧ (l ≠ [] → ∃ b o s, a = some ⟨b, o, none⟩ ∧ RE F b o s l)
  | .fp l, cs => ∃ b o vs, cs = [.pointer (some ⟨b, o, none⟩)] ∧ At F b o vs ∧ RL F l vs
  | .fn f caps, cs => ∃ ca, cs = [.func f #[] ca] ∧ RA F caps ca.toList
  | .ifc t x, cs => ∃ u, cs = [.iface t u] ∧ RC F x u.cells.toList ∧ x.isAgg = aggV u
  | .mp ks vs, cs => ∃ b es es', cs = [.map (some b)] ∧ F.m b = some es ∧ (es.toList = es' ∨ (es.toList.Perm es' ∧ ks.Nodup ∧ ∀ k ∈ ks, ∃ n, k = .int .i64 n)) ∧ es'.map (·.key) = ks ∧ RA F vs (es'.map (·.val))
def RL (F : Fz) : List C → List Value → Prop
  | [], cs => cs = []
  | x :: l, cs => ∃ u r, cs = u :: r ∧ RC F x [u] ∧ x.isAgg = false ∧ RL F l r
def RE (F : Fz) (b o s : Nat) : List C → Prop
  | [] => True
  | x :: l => (∃ vs, vs.length = s ∧ At F b o vs ∧ RC F x vs) ∧ RE F b (o + s) s l
def RA (F : Fz) : List C → List Value → Prop
  | [], cs => cs = []
  | x :: l, cs => ∃ u r, cs = u :: r ∧ RC F x u.cells.toList ∧ x.isAgg = aggV u ∧ RA F l r
end
inductive Pl where
  | tmp (k t : Nat) | cell (d t i : Nat) | res | none
  deriving DecidableEq
structure Own where
  pl : Pl
  fin : Nat
  tot : Nat
structure G where
  F : Fz
  φ : Nat → Nat → Option Nat
  o : Nat → Option Own
def Spare (g : G) (p : Pl) (s : Option Nat) (u : Value) : Prop :=
  ∀ a n c, u = .slice a n c → n < c → ∃ b s', a = some ⟨b, 0, none⟩ ∧ s = some s' ∧ g.o b = some ⟨p, n * s', c * s'⟩
mutual
def RV (g : G) (p : Pl) : V → Value → Prop
  | .c x, u => RC g.F x u.cells.toList ∧ x.isAgg = aggV u
  | .tip s l, u => RC g.F (.sl l) [u] ∧ Spare g p s u
  | .p d t off, u => ∃ b, g.φ d t = some b ∧ u = .pointer (some ⟨b, off, none⟩)
  | .agg l, u => ∃ cs, u = .agg cs ∧ RVL g l cs.toList ∧ ∀ x ∈ l, x.isAgg = false ∧ x.isTup = false
  | .tup l, u => ∃ cs, u = .tuple cs ∧ RVL g l cs.toList
  | .fn f l, u => ∃ cs, u = .func f #[] cs ∧ RVL g l cs.toList
  | .undef, _ => True
  | .nagg l, u => ∃ cs, u = .agg cs ∧ RVL g l cs.toList ∧ ∀ x ∈ l, x.isAgg = false ∧ x.isTup = false ∧ x.full = true
def RVL (g : G) : List V → List Value → Prop
  | [], cs => cs = []
  | x :: l, cs => ∃ u r, cs = u :: r ∧ RV g .none x u ∧ RVL g l r
end
/-! ### later ghosts -/
structure Ext (g g' : G) (S : Pl → Prop) : Prop where
  F : Fz.le g.F g'.F
  φ : ∀ d t b, g.φ d t = some b → g'.φ d t = some b
  o : ∀ b q, g.o b = some q → ¬ S q.pl → g'.o b = some q
theorem Fz.le.refl (F : Fz) : Fz.le F F := ⟨fun _ _ _ h => h, fun _ _ h => h⟩
theorem Fz.le.trans {F F' F'' : Fz} (h : Fz.le F F') (k : Fz.le F' F'') : Fz.le F F'' := ⟨fun _ _ _ x => k.c _ _ _ (h.c _ _ _ x), fun _ _ x => k.m _ _ (h.m _ _ x)⟩
theorem Ext.refl (g : G) (S : Pl → Prop) : Ext g g S := ⟨Fz.le.refl _, fun _ _ _ h => h, fun _ _ h _ => h⟩
theorem Ext.trans {a b c : G} {S : Pl → Prop} (h : Ext a b S) (k : Ext b c S) : Ext a c S :=
  ⟨h.F.trans k.F, fun _ _ _ x => k.φ _ _ _ (h.φ _ _ _ x), fun _ _ x n => k.o _ _ (h.o _ _ x n) n⟩
section
variable {F F' : Fz} (hF : Fz.le F F')
include hF
theorem At.mono {b o : Nat} {vs : List Value} (h : At F b o vs) : At F' b o vs := fun j u hj => hF.c _ _ _ (h j u hj)
mutual
theorem RC.mono : ∀ {x : C} {cs : List Value}, RC F x cs → RC F' x cs
  | .v x, cs, h => h
  | .agg l, cs, h => by simp only [RC] at h ⊢; exact RL.mono h
  | .sl l, cs, h => by
    simp only [RC] at h ⊢
    obtain ⟨a, n, c, h1, h2, h3, h4⟩ := h
    exact ⟨a, n, c, h1, h2, h3, fun hl => let ⟨b, o, s, e, k⟩ := h4 hl; ⟨b, o, s, e, RE.mono k⟩⟩
  | .fp l, cs, h => by
    simp only [RC] at h ⊢
    obtain ⟨b, o, vs, h1, h2, h3⟩ := h
    exact ⟨b, o, vs, h1, At.mono hF h2, RL.mono h3⟩
  | .fn f caps, cs, h => by
    simp only [RC] at h ⊢
    obtain ⟨ca, h1, h2⟩ := h
    exact ⟨ca, h1, RA.mono h2⟩
  | .ifc t x, cs, h => by
    simp only [RC] at h ⊢
    obtain ⟨u, h1, h2, h3⟩ := h
    exact ⟨u, h1, RC.mono h2, h3⟩
  | .mp ks vs, cs, h => by
    simp only [RC] at h ⊢
    obtain ⟨b, es, es', h1, h2, h3, h4, h5⟩ := h
    exact ⟨b, es, es', h1, hF.m _ _ h2, h3, h4, RA.mono h5⟩
theorem RL.mono : ∀ {l : List C} {cs : List Value}, RL F l cs → RL F' l cs
  | [], cs, h => h
  | x :: l, cs, h => by
    simp only [RL] at h ⊢
    obtain ⟨u, r, h1, h2, h3, h4⟩ := h
    exact ⟨u, r, h1, RC.mono h2, h3, RL.mono h4⟩
theorem RE.mono : ∀ {l : List C} {b o s : Nat}, RE F b o s l → RE F' b o s l
  | [], _, _, _, h => trivial
  | x :: l, b, o, s, h => by
    simp only [RE] at h ⊢
    obtain ⟨⟨vs, h1, h2, h3⟩, h4⟩ := h
    exact ⟨⟨vs, h1, At.mono hF h2, RC.mono h3⟩, RE.mono h4⟩
theorem RA.mono : ∀ {l : List C} {cs : List Value}, RA F l cs → RA F' l cs
  | [], cs, h => h
  | x :: l, cs, h => by
    simp only [RA] at h ⊢
    obtain ⟨u, r, h1, h2, h3, h4⟩ := h
    exact ⟨u, r, h1, RC.mono h2, h3, RA.mono h4⟩
end
end
section
variable {g g' : G} {S : Pl → Prop} (he : Ext g g' S) (h0 : ¬ S .none)
include he
theorem Spare.ext {p : Pl} (hp : ¬ S p) {s : Option Nat} {u : Value} (h : Spare g p s u) : Spare g' p s u := fun a n c hu hn =>
  let ⟨b, s', h1, h2, h3⟩ := h a n c hu hn; ⟨b, s', h1, h2, he.o _ _ h3 hp⟩
include h0
mutual
theorem RV.ext : ∀ {x : V} {p : Pl} {u : Value}, ¬ S p → RV g p x u → RV g' p x u
  | .c x, p, u, hp, h => by simp only [RV] at h ⊢; exact ⟨RC.mono he.F h.1, h.2⟩
  | .tip s l, p, u, hp, h => by simp only [RV] at h ⊢; exact ⟨RC.mono he.F h.1, Spare.ext he hp h.2⟩
  | .p d t off, p, u, hp, h => by simp only [RV] at h ⊢; obtain ⟨b, h1, h2⟩ := h; exact ⟨b, he.φ _ _ _ h1, h2⟩
  | .agg l, p, u, hp, h => by simp only [RV] at h ⊢; obtain ⟨cs, h1, h2, h3⟩ := h; exact ⟨cs, h1, RVL.ext h2, h3⟩
  | .tup l, p, u, hp, h => by simp only [RV] at h ⊢; obtain ⟨cs, h1, h2⟩ := h; exact ⟨cs, h1, RVL.ext h2⟩
  | .fn f l, p, u, hp, h => by simp only [RV] at h ⊢; obtain ⟨cs, h1, h2⟩ := h; exact ⟨cs, h1, RVL.ext h2⟩
  | .undef, p, u, hp, h => trivial
  | .nagg l, p, u, hp, h => by simp only [RV] at h ⊢; obtain ⟨cs, h1, h2, h3⟩ := h; exact ⟨cs, h1, RVL.ext h2, h3⟩
theorem RVL.ext : ∀ {l : List V} {cs : List Value}, RVL g l cs → RVL g' l cs
  | [], cs, h => h
  | x :: l, cs, h => by
    simp only [RVL] at h ⊢
    obtain ⟨u, r, h1, h2, h3⟩ := h
    exact ⟨u, r, h1, RV.ext h0 h2, RVL.ext h3⟩
end
end
theorem tip_one {g : G} {p : Pl} {s : Option Nat} {l : List C} {u : Value} (h : RV g p (.tip s l) u) : RC g.F (.sl l) [u] ∧ u.cells.toList = [u] ∧ aggV u = false := by
  simp only [RV] at h
  obtain ⟨h1, h2⟩ := h
  refine ⟨h1, ?_⟩
  simp only [RC] at h1
  obtain ⟨a, n, c, h3, _⟩ := h1
  cases h3
  exact ⟨rfl, rfl⟩
theorem full_RL {g : G} : ∀ {l : List V} {cs : List Value}, RVL g l cs → (∀ x ∈ l, x.isAgg = false ∧ x.isTup = false ∧ x.full = true) → RL g.F (l.map fun x => x.full1.toC) cs
  | [], cs, h, _ => by simpa only [RVL, List.map_nil, RL] using h
  | x :: l, cs, h, hf => by
    simp only [RVL] at h
    obtain ⟨u, r, rfl, h2, h3⟩ := h
    have ih := full_RL h3 (fun y hy => hf y (List.mem_cons_of_mem _ hy))
    obtain ⟨k1, k2, k3⟩ := hf x (List.mem_cons_self ..)
    simp only [List.map_cons, RL]
    refine ⟨u, r, rfl, ?_, ?_, ih⟩
    · cases x with
      | c y =>
        simp only [RV] at h2
        have hy : y.isAgg = false := k1
        have hc : u.cells.toList = [u] := by
          have h5 := h2.2
          rw [hy] at h5
          cases u <;> simp [aggV, Value.cells] at h5 ⊢
        rw [hc] at h2
        exact h2.1
      | tip s l => exact (tip_one h2).1
      | _ => simp [V.full] at k3
    · cases x with
      | c y => exact k1
      | tip s l => rfl
      | _ => simp [V.full] at k3
/-- a value without the right to append is told alike at every place -/
theorem RV.strip {g : G} {p q : Pl} : ∀ {x : V} {u : Value}, RV g p x u → RV g q x.strip u
  | .c x, u, h => h
  | .tip s l, u, h => by
    simp only [V.strip, RV] at h ⊢
    obtain ⟨h1, h2⟩ := h
    have : u.cells.toList = [u] ∧ aggV u = false := by
      simp only [RC] at h1
      obtain ⟨a, n, c, h3, _⟩ := h1
      cases h3
      exact ⟨rfl, rfl⟩
    rw [this.1, this.2]
    exact ⟨h1, rfl⟩
  | .p d t off, u, h => h
  | .agg l, u, h => h
  | .tup l, u, h => h
  | .fn f l, u, h => h
  | .undef, u, h => trivial
  | .nagg l, u, h => by
    simp only [V.strip, RV, RC] at h ⊢
    obtain ⟨cs, rfl, h2, h3⟩ := h
    exact ⟨full_RL h2 h3, rfl⟩
/-! ### the boxes, and the world -/
/-- the packages' variables that are told -/
def GlobOK (A : Ann) (g : G) : Prop := ∀ v l, A.glob v = some l → ∃ vs, At g.F v 0 vs ∧ RL g.F l vs
structure Inv (A : Ann) (w0 : World) (pend : Nat → Nat → Option Box) (g : G) (m : Mem) (w : World) : Prop where
  laid : A.laid w0
  below : Below w0.heap.size w0 w
  glob : GlobOK A g
  F : ∀ b i v, g.F b i = some v → w.cell? ⟨b, i, none⟩ = some v
  M : ∀ b es, g.F.m b = some es → ∃ clock, w.heap[b]? = some (.map es clock)
  φ : ∀ d t b, g.φ d t = some b → w0.heap.size ≤ b ∧ (∀ i, g.F b i = none) ∧ g.o b = none ∧ ∃ l cs e, look m d t = some l ∧ w.heap[b]? = some (.cells cs e (0, 0)) ∧ l.length = cs.size ∧ (∀ x ∈ l, x.isAgg = false ∧ x.isTup = false) ∧ ∀ (i : Nat) x u, l[i]? = some x → cs[i]? = some u → RV g (.cell d t i) x u
  inj : ∀ d t d' t' b, g.φ d t = some b → g.φ d' t' = some b → d = d' ∧ t = t'
  o : ∀ b q, g.o b = some q → w0.heap.size ≤ b ∧ ∃ cs e, w.heap[b]? = some (.cells cs e (0, 0)) ∧ cs.size = q.tot ∧ ∀ i, q.fin ≤ i → g.F b i = none
  up : ∀ d t l, look m d t = some l → upToL (d + 1) l = true
  pend : ∀ d t l, pend d t = some l → g.φ d t = none ∧ look m d t = some l
structure TR (g : G) (k : Nat) (tm : List V) (vals : Array Value) : Prop where
  size : tm.length = vals.size
  rel : ∀ (t : Nat) x u, tm[t]? = some x → vals[t]? = some u → RV g (.tmp k t) x u
  up : upToL (k + 1) tm = true
abbrev Gh := Nat → List V × Array Value
def GHR (g : G) (n : Nat) (gh : Gh) : Prop := ∀ k, k < n → TR g k (gh k).1 (gh k).2
structure CallOK (P : Program) (A : Ann) (cl : CallF) : Prop where
  fn : ∀ ro f vs m q, cl ro f vs m = some q → ∀ args w, (callFunc f args).run P w = .ok (.enter f args) w
  len : ∀ ro f vs m r m', cl ro f vs m = some (r, m') → m'.length = m.length
  ro : ∀ ro f vs m r m', cl ro f vs m = some (r, m') → m.length ≤ ro → m' = m
  up : ∀ ro f vs m r m', cl ro f vs m = some (r, m') → r.upTo m.length = true
  call : ∀ ro f vs m r m', cl ro f vs m = some (r, m') → ∀ w0 pend g w gh (vals : Array Value), Inv A w0 pend g m w → GHR g m.length gh →
    vs.length = vals.size → (∀ (i : Nat) x u, vs[i]? = some x → vals[i]? = some u → RV g (.tmp m.length i) x u) → upToL m.length vs = true →
    Calls P f vals w (fun e w' => ∃ u g', e = .returned u ∧ Inv A w0 pend g' m' w' ∧ GHR g' m.length gh ∧ RV g' .res r u)
end Go.Eng
/- Operations that look at values alone. -/
set_option linter.unusedVariables false
set_option linter.unusedSimpArgs false
namespace Go.Eng
open Go.RowKit
variable {P : Program} {A : Ann} {g : G} {w : World}
theorem RC.one {F : Fz} : ∀ {x : C} {u : Value}, RC F x [u] → x.isAgg = false → u.oneCell' = true
  | .v x, u, h, _ => by simp only [RC] at h; obtain ⟨h1, h2⟩ := h; cases h1; exact h2
  | .agg l, u, h, h' => by simp [C.isAgg] at h'
  | .sl l, u, h, _ => by simp only [RC] at h; obtain ⟨a, n, c, h1, _⟩ := h; cases h1; rfl
  | .fp l, u, h, _ => by simp only [RC] at h; obtain ⟨b, o, vs, h1, _⟩ := h; cases h1; rfl
  | .fn f l, u, h, _ => by simp only [RC] at h; obtain ⟨ca, h1, _⟩ := h; cases h1; rfl
  | .ifc t x, u, h, _ => by simp only [RC] at h; obtain ⟨v, h1, _⟩ := h; cases h1; rfl
  | .mp ks vs, u, h, _ => by simp only [RC] at h; obtain ⟨b, es, es', h1, _⟩ := h; cases h1; rfl
theorem cells_one {u : Value} (h : u.oneCell' = true) : u.cells = #[u] ∧ aggV u = false := by
  cases u <;> simp_all [Value.oneCell', Value.cells, aggV]
theorem RC.len {F : Fz} : ∀ {x : C} {cs : List Value}, RC F x cs → cs.length = x.cells.length
  | .v x, cs, h => by simp only [RC] at h; rw [h.1]; rfl
  | .agg l, cs, h => by
    simp only [RC] at h
    show cs.length = l.length
    induction l generalizing cs with
    | nil => simp only [RL] at h; rw [h]; rfl
    | cons y l ih => simp only [RL] at h; obtain ⟨u, r, rfl, _, _, h4⟩ := h; simp [ih _ h4]
  | .sl l, cs, h => by simp only [RC] at h; obtain ⟨a, n, c, h1, _⟩ := h; rw [h1]; rfl
  | .fp l, cs, h => by simp only [RC] at h; obtain ⟨b, o, vs, h1, _⟩ := h; rw [h1]; rfl
  | .fn f l, cs, h => by simp only [RC] at h; obtain ⟨ca, h1, _⟩ := h; rw [h1]; rfl
  | .ifc t x, cs, h => by simp only [RC] at h; obtain ⟨v, h1, _⟩ := h; rw [h1]; rfl
  | .mp ks vs, cs, h => by simp only [RC] at h; obtain ⟨b, es, es', h1, _⟩ := h; rw [h1]; rfl
/-- a value that is no aggregate is one cell -/
theorem RC.single {F : Fz} {x : C} {cs : List Value} (h : RC F x cs) (hx : x.isAgg = false) : ∃ u, cs = [u] ∧ RC F x [u] := by
  have hl := h.len
  have : x.cells = [x] := by cases x <;> first | rfl | simp [C.isAgg] at hx
  rw [this] at hl
  match cs, hl with
  | [u], _ => exact ⟨u, rfl, h⟩
theorem RVc {p : Pl} {x : C} {u : Value} (h : RC g.F x [u]) (hx : x.isAgg = false) : RV g p (.c x) u := by
  have h1 := cells_one (RC.one h hx)
  simp only [RV]
  rw [h1.1, h1.2]
  exact ⟨h, hx⟩
theorem RV.c_one {p : Pl} {x : C} {u : Value} (h : RV g p (.c x) u) (hx : x.isAgg = false) : RC g.F x [u] ∧ u.oneCell' = true := by
  simp only [RV] at h
  obtain ⟨h1, h2⟩ := h
  obtain ⟨y, hy, hr⟩ := h1.single hx
  have hu : u.cells = #[u] := by
    rw [hx] at h2
    cases u <;> first | rfl | simp [aggV] at h2
  rw [hu] at hy
  cases hy
  exact ⟨hr, RC.one hr hx⟩
theorem RV.scalar {p : Pl} {x u : Value} (h : RV g p (.c (.v x)) u) : u = x ∧ x.oneCell' = true := by
  have := (h.c_one rfl).1
  simp only [RC] at this
  obtain ⟨h1, h2⟩ := this
  cases h1
  exact ⟨rfl, h2⟩
theorem RVv {p : Pl} {x : Value} (h : x.oneCell' = true) : RV g p (.c (.v x)) x := RVc (by simp only [RC]; exact ⟨trivial, h⟩) rfl
/-! ### lists -/
theorem RVL.get : ∀ {l : List V} {cs : List Value}, RVL g l cs → l.length = cs.length ∧ ∀ (i : Nat) x u, l[i]? = some x → cs[i]? = some u → RV g .none x u
  | [], cs, h => by simp only [RVL] at h; subst h; exact ⟨rfl, fun i x u h => by simp at h⟩
  | y :: l, cs, h => by
    simp only [RVL] at h
    obtain ⟨u, r, rfl, h2, h3⟩ := h
    obtain ⟨k1, k2⟩ := RVL.get h3
    refine ⟨by simp [k1], fun i x v hx hv => ?_⟩
    cases i with
    | zero => simp at hx hv; subst hx; subst hv; exact h2
    | succ i => simp at hx hv; exact k2 i x v hx hv
theorem RVL.mk : ∀ {l : List V} {cs : List Value}, l.length = cs.length → (∀ (i : Nat) x u, l[i]? = some x → cs[i]? = some u → RV g .none x u) → RVL g l cs
  | [], [], _, _ => by simp only [RVL]
  | x :: l, u :: cs, h, k => by
    simp only [RVL]
    exact ⟨u, cs, rfl, k 0 x u rfl rfl, RVL.mk (by simpa using h) (fun i y v hy hv => k (i + 1) y v (by simpa using hy) (by simpa using hv))⟩
theorem RVL.take {l : List V} {cs : List Value} (h : RVL g l cs) (n : Nat) : RVL g (l.take n) (cs.take n) := by
  obtain ⟨h1, h2⟩ := h.get
  refine RVL.mk (by simp [h1]) fun i x u hx hu => ?_
  rw [List.getElem?_take] at hx hu
  split at hx
  · exact h2 i x u hx (by simpa [*] using hu)
  · simp at hx
theorem RVL.drop {l : List V} {cs : List Value} (h : RVL g l cs) (n : Nat) : RVL g (l.drop n) (cs.drop n) := by
  obtain ⟨h1, h2⟩ := h.get
  refine RVL.mk (by simp [h1]) fun i x u hx hu => ?_
  rw [List.getElem?_drop] at hx hu
  exact h2 _ x u hx hu
theorem RL.rvl {l : List C} {cs : List Value} (h : RL g.F l cs) : RVL g (l.map .c) cs := by
  induction l generalizing cs with
  | nil => simp only [RL] at h; subst h; simp only [List.map_nil, RVL]
  | cons y l ih =>
    simp only [RL] at h
    obtain ⟨u, r, rfl, h2, h3, h4⟩ := h
    simp only [List.map_cons, RVL]
    exact ⟨u, r, rfl, RVc h2 h3, ih h4⟩
theorem RL.noAgg {F : Fz} {l : List C} {cs : List Value} (h : RL F l cs) : ∀ x ∈ l, x.isAgg = false := by
  induction l generalizing cs with
  | nil => intro x hx; cases hx
  | cons y l ih =>
    simp only [RL] at h
    obtain ⟨u, r, rfl, h2, h3, h4⟩ := h
    intro x hx
    cases hx with
    | head => exact h3
    | tail _ hx => exact ih h4 x hx
/-- no part of it is an aggregate -/
def Flat (l : List V) : Prop := ∀ x ∈ l, x.isAgg = false ∧ x.isTup = false
theorem RV.full1 {p q : Pl} {x : V} {u : Value} (h : RV g p x u) (hf : x.isAgg = false ∧ x.isTup = false ∧ x.full = true) : RV g q x.full1 u ∧ x.full1.isAgg = false ∧ x.full1.isTup = false := by
  cases x with
  | c y => exact ⟨h, hf.1, rfl⟩
  | tip s l => exact ⟨RV.strip h, rfl, rfl⟩
  | _ => simp [V.full] at hf
theorem RV.fullAt {p q : Pl} {x : V} {u : Value} (h : RV g p x u) (hf : x.full = true) : RV g q x u := by
  cases x with
  | c y => exact h
  | tip s l =>
    cases s with
    | none =>
      simp only [RV] at h ⊢
      exact ⟨h.1, fun a n c hu hn => by obtain ⟨_, _, _, e, _⟩ := h.2 a n c hu hn; cases e⟩
    | some s => simp [V.full] at hf
  | _ => simp [V.full] at hf
theorem RVL.full1 : ∀ {l : List V} {cs : List Value}, RVL g l cs → (∀ x ∈ l, x.isAgg = false ∧ x.isTup = false ∧ x.full = true) → RVL g (l.map V.full1) cs ∧ Flat (l.map V.full1)
  | [], cs, h, _ => by simp only [RVL] at h; subst h; exact ⟨by simp only [List.map_nil, RVL], fun x hx => by cases hx⟩
  | x :: l, cs, h, hf => by
    simp only [RVL] at h
    obtain ⟨u, r, rfl, h2, h3⟩ := h
    obtain ⟨k1, k2⟩ := RVL.full1 h3 (fun y hy => hf y (List.mem_cons_of_mem _ hy))
    obtain ⟨k3, k4⟩ := h2.full1 (q := .none) (hf x (List.mem_cons_self ..))
    refine ⟨by simp only [List.map_cons, RVL]; exact ⟨u, r, rfl, k3, k1⟩, fun y hy => ?_⟩
    rcases List.mem_cons.1 hy with rfl | hy
    · exact k4
    · exact k2 y hy
/-- the cells of a value that is no tuple -/
theorem RV.cells {p : Pl} : ∀ {x : V} {u : Value}, RV g p x u → x.isTup = false → RVL g x.cells u.cells.toList ∧ Flat x.cells
  | .c x, u, h, _ => by
    simp only [RV] at h
    obtain ⟨h1, h2⟩ := h
    by_cases hx : x.isAgg = true
    · match x, hx with
      | .agg l, _ =>
        simp only [RC] at h1
        exact ⟨h1.rvl, fun y hy => by
          simp only [V.cells, C.cells, List.mem_map] at hy
          obtain ⟨z, hz, rfl⟩ := hy
          exact ⟨h1.noAgg z hz, rfl⟩⟩
    · have hx : x.isAgg = false := by simpa using hx
      obtain ⟨v, e, k⟩ := h1.single hx
      have hc : x.cells = [x] := by cases x <;> first | rfl | simp [C.isAgg] at hx
      simp only [V.cells, hc, List.map_cons, List.map_nil, e, RVL]
      exact ⟨⟨v, [], rfl, RVc k hx, rfl⟩, fun y hy => by simp at hy; subst hy; exact ⟨hx, rfl⟩⟩
  | .tip s l, u, h, _ => by
    have h' := RV.strip (q := .none) h
    have h1 := (RV.c_one (x := .sl l) h' rfl)
    have hc := cells_one h1.2
    simp only [V.cells, V.strip, hc.1, RVL]
    exact ⟨⟨u, [], rfl, h', rfl⟩, fun y hy => by simp at hy; subst hy; exact ⟨rfl, rfl⟩⟩
  | .p d t off, u, h, _ => by
    simp only [RV] at h
    obtain ⟨b, h1, rfl⟩ := h
    simp only [V.cells, V.strip, Value.cells, RVL, RV]
    exact ⟨⟨_, [], rfl, ⟨b, h1, rfl⟩, rfl⟩, fun y hy => by simp at hy; subst hy; exact ⟨rfl, rfl⟩⟩
  | .agg l, u, h, _ => by
    simp only [RV] at h
    obtain ⟨cs, rfl, h2, h3⟩ := h
    exact ⟨h2, h3⟩
  | .nagg l, u, h, _ => by
    simp only [RV] at h
    obtain ⟨cs, rfl, h2, h3⟩ := h
    exact RVL.full1 h2 h3
  | .fn f l, u, h, _ => by
    simp only [RV] at h
    obtain ⟨cs, rfl, h2⟩ := h
    simp only [V.cells, V.strip, Value.cells, RVL, RV]
    exact ⟨⟨_, [], rfl, ⟨cs, rfl, h2⟩, rfl⟩, fun y hy => by simp at hy; subst hy; exact ⟨rfl, rfl⟩⟩
theorem RV.oneCell {p : Pl} {x : V} {u : Value} (h : RV g p x u) (ha : x.isAgg = false) (ht : x.isTup = false) : u.oneCell' = true := by
  cases x with
  | c x => exact (h.c_one ha).2
  | tip s l => simp only [RV, RC] at h; obtain ⟨⟨a, n, c, h1, _⟩, _⟩ := h; cases h1; rfl
  | p d t off => simp only [RV] at h; obtain ⟨b, _, rfl⟩ := h; rfl
  | agg l => simp [V.isAgg] at ha
  | tup l => simp [V.isTup] at ht
  | fn f l => simp only [RV] at h; obtain ⟨cs, rfl, _⟩ := h; rfl
  | undef => simp [V.isTup] at ht
  | nagg l => simp [V.isAgg] at ha
theorem RVL.rl : ∀ {l : List V} {cs : List Value}, RVL g l cs → l.all V.isC = true → Flat l → RL g.F (l.map V.toC) cs
  | [], cs, h, _, _ => by simpa only [RVL, List.map_nil, RL] using h
  | x :: l, cs, h, ha, hf => by
    simp only [RVL] at h
    obtain ⟨u, r, rfl, h2, h3⟩ := h
    simp only [List.all_cons, Bool.and_eq_true] at ha
    match x, ha.1 with
    | .c x, _ =>
      simp only [List.map_cons, V.toC, RL]
      have hx : x.isAgg = false := (hf _ (List.mem_cons_self ..)).1
      exact ⟨u, r, rfl, (h2.c_one hx).1, hx, RVL.rl h3 ha.2 (fun y hy => hf y (List.mem_cons_of_mem _ hy))⟩
theorem RV.mkAgg {p : Pl} {l : List V} {cs : Array Value} (h : RVL g l cs.toList) (hf : Flat l) : RV g p (mkAgg l) (.agg cs) := by
  unfold Eng.mkAgg
  split
  · rename_i ha
    simp only [RV, RC, Value.cells]
    exact ⟨h.rl ha hf, rfl⟩
  · simp only [RV]
    exact ⟨cs, rfl, h, hf⟩
theorem RV.mkNagg {p : Pl} {l : List V} {cs : Array Value} (h : RVL g l cs.toList) (hf : Flat l) : RV g p (mkNagg l) (.agg cs) := by
  unfold Eng.mkNagg
  split
  · rename_i ha
    simp only [RV, RC, Value.cells]
    exact ⟨h.rl ha hf, rfl⟩
  · split
    · rename_i ha
      simp only [RV]
      exact ⟨cs, rfl, h, fun x hx => ⟨(hf x hx).1, (hf x hx).2, List.all_eq_true.1 ha x hx⟩⟩
    · have key : ∀ {l : List V} {cs : List Value}, RVL g l cs → Flat l → RVL g (l.map V.full1) cs ∧ Flat (l.map V.full1) := by
        intro l
        induction l with
        | nil => intro cs h _; simp only [RVL] at h; subst h; exact ⟨by simp only [List.map_nil, RVL], fun x hx => by cases hx⟩
        | cons x l ih =>
          intro cs h hf
          simp only [RVL] at h
          obtain ⟨u, r, rfl, h2, h3⟩ := h
          obtain ⟨k1, k2⟩ := ih h3 (fun y hy => hf y (List.mem_cons_of_mem _ hy))
          have hx := hf x (List.mem_cons_self ..)
          have k3 : RV g .none x.full1 u ∧ x.full1.isAgg = false ∧ x.full1.isTup = false := by
            cases x with
            | tip s l => exact ⟨RV.strip h2, rfl, rfl⟩
            | _ => exact ⟨h2, hx.1, hx.2⟩
          refine ⟨by simp only [List.map_cons, RVL]; exact ⟨u, r, rfl, k3.1, k1⟩, fun y hy => ?_⟩
          rcases List.mem_cons.1 hy with rfl | hy
          · exact k3.2
          · exact k2 y hy
      obtain ⟨k1, k2⟩ := key h hf
      simp only [RV]
      exact ⟨cs, rfl, k1, k2⟩
theorem Flat.take {l : List V} (h : Flat l) (n : Nat) : Flat (l.take n) := fun x hx => h x (List.mem_of_mem_take hx)
theorem Flat.drop {l : List V} (h : Flat l) (n : Nat) : Flat (l.drop n) := fun x hx => h x (List.mem_of_mem_drop hx)
end Go.Eng
/- Operations that look at values alone: each yields what the machine says. -/
set_option linter.unusedVariables false
set_option linter.unusedSimpArgs false
namespace Go.Eng
open Go.RowKit
variable {P : Program} {A : Ann} {g : G} {w : World}
theorem tyOf_spec {t : TypeId} {i : TyI} (h : tyOf P t = some i) : ∃ ti u z, P.info? t = some ti ∧ P.underlying t = some u ∧ ti.size = i.size ∧ ti.bytes = i.bytes ∧ i.agg = isAggD u ∧ ti.zero = some z ∧
    z.cells.toList.mapM constV = some i.zero ∧ kindOf P u = some i.kind ∧ i.zero.length = i.size := by
  unfold tyOf at h
  split at h
  · rename_i ti u h1 h2
    split at h
    · rename_i z hz
      split at h
      · rename_i zc k h3 h4
        split at h
        · rename_i h5
          cases h
          exact ⟨ti, u, z, h1, h2, rfl, rfl, rfl, hz, h3, h4, h5⟩
        · cases h
      · cases h
    · cases h
  · cases h
theorem run_isAgg {t : TypeId} {u : TypeDesc} (h : P.underlying t = some u) : (isAgg t).run P w = .ok (isAggD u) w := by
  simp only [isAgg, Sem.run_bind, run_underlying h, Result.andThen_ok]
  cases u <;> rfl
theorem run_sizeOf' {t : TypeId} {i : TypeInfo} (h : P.info? t = some i) : (sizeOf t).run P w = .ok i.size w := by
  simp [sizeOf, typeInfo, h]
theorem add_plain (b o n : Nat) : (⟨b, o, none⟩ : Addr).add n = ⟨b, o + n, none⟩ := by
  unfold Addr.add
  split
  · subst n; rfl
  · rfl
theorem At.get {F : Fz} {b o : Nat} {vs : List Value} (h : At F b o vs) {j : Nat} {v : Value} (hj : vs[j]? = some v) : F b (o + j) = some v := h j v hj
theorem At.drop {F : Fz} {b o : Nat} {vs : List Value} (h : At F b o vs) (n : Nat) : At F b (o + n) (vs.drop n) := fun j u hj => by
  rw [List.getElem?_drop] at hj
  have := h _ _ hj
  rwa [← Nat.add_assoc] at this
theorem At.take {F : Fz} {b o : Nat} {vs : List Value} (h : At F b o vs) (n : Nat) : At F b o (vs.take n) := fun j u hj => by
  rw [List.getElem?_take] at hj
  split at hj
  · exact h _ _ hj
  · cases hj
section
variable (hF : ∀ b i v, g.F b i = some v → w.cell? ⟨b, i, none⟩ = some v)
include hF
theorem run_loadVarF {t : TypeId} {i : TyI} (ht : tyOf P t = some i) {b o : Nat} {vs : List Value} (h : At g.F b o vs) (hl : i.size ≤ vs.length) {v : Value}
    (hv : if i.agg then v = .agg (vs.take i.size).toArray else vs[0]? = some v) : (loadVar t ⟨b, o, none⟩).run P w = .ok v w := by
  obtain ⟨ti, u, z, h1, h2, h3, _, h5, _⟩ := tyOf_spec ht
  simp only [loadVar, Sem.run_bind, run_isAgg h2, Result.andThen_ok]
  rw [← h5]
  cases ha : i.agg with
  | true =>
    simp only [ha, if_true] at hv ⊢
    subst hv
    have hc := run_loadCells_list (P := P) w ⟨b, o, none⟩ (vs.take i.size) (fun j v hj => by
      rw [add_plain]
      exact hF _ _ _ ((h.take _).get hj))
    rw [List.length_take, Nat.min_eq_left hl] at hc
    simp only [Sem.run_bind, run_sizeOf' h1, Result.andThen_ok, h3, hc]
    rfl
  | false =>
    simp only [ha, Bool.false_eq_true, if_false] at hv ⊢
    have := hF _ _ _ (h.get hv)
    simp only [Nat.add_zero] at this
    simp [load, Sem.run, this]
end
theorem run_part {t : TypeId} {i : TypeInfo} {u : TypeDesc} (h1 : P.info? t = some i) (h2 : P.underlying t = some u) {cs : Array Value} {off : Nat} {v : Value}
    (hv : if isAggD u then v = .agg (cs.extract off (off + i.size)) else cs[off]? = some v) : (part t cs off).run P w = .ok v w := by
  simp only [part, Sem.run_bind, run_isAgg h2, Result.andThen_ok]
  cases ha : isAggD u with
  | true => simp only [ha, if_true] at hv ⊢; subst hv; simp [run_sizeOf' h1]
  | false => simp only [ha, Bool.false_eq_true, if_false] at hv ⊢; simp [hv]
/-- the value of some cells: what is loaded -/
theorem ofCells_ok {p : Pl} {agg : Bool} {l : List V} {cs : List Value} {v : V} (h : RVL g l cs) (hf : Flat l) (hv : ofCells agg l = some v) :
    ∃ u, RV g p v u ∧ (if agg then u = .agg cs.toArray else cs[0]? = some u ∧ cs = [u]) := by
  unfold ofCells at hv
  split at hv
  · rename_i ha
    cases hv
    exact ⟨.agg cs.toArray, RV.mkAgg (by simpa using h) hf, by simp [ha]⟩
  · rename_i ha
    match l, hv with
    | [x], hv =>
      cases hv
      simp only [RVL] at h
      obtain ⟨u, r, rfl, h2, rfl⟩ := h
      exact ⟨u, h2.strip, by simp [ha]⟩
theorem asInt_ok {rd : Operand → Option V} {x : Operand} {n : Int} (h : asInt? (rd x) = some n) : ∃ k, rd x = some (.c (.v (.int k n))) := by
  unfold asInt? at h
  split at h
  · rename_i k m e; cases h; exact ⟨k, e⟩
  · cases h
theorem asBool_ok {x : Option V} {q : Bool} (h : asBool? x = some q) : x = some (.c (.v (.bool q))) := by
  unfold asBool? at h
  split at h
  · cases h; rfl
  · cases h
/-- what is read of operands is the model's -/
def Reads (g : G) (rd : Operand → Option V) (ρ : Operand → Value) : Prop := ∀ x v, rd x = some v → RV g .none v (ρ x) ∧ v.strip = v
theorem Reads.int {rd : Operand → Option V} {ρ : Operand → Value} (h : Reads g rd ρ) {x : Operand} {n : Int} (hx : asInt? (rd x) = some n) : ∃ k, ρ x = .int k n := by
  obtain ⟨k, e⟩ := asInt_ok hx
  exact ⟨k, (h _ _ e).1.scalar.1⟩
variable {rd : Operand → Option V} {a : Act} {o : Oper}
/-- what is to be shown of an operation -/
def Yields (P : Program) (g : G) (w : World) (a : Act) (o : Oper) (v : V) : Prop := ∃ u, (execOp a.eval o).run P w = .ok (.value u) w ∧ ∀ p, RV g p v u
theorem RV.any {x : V} {u : Value} {p : Pl} (h : RV g p x u) (hs : x.strip = x) (q : Pl) : RV g q x u := by rw [← hs]; exact h.strip
theorem yields_move {x : Operand} {v : V} (hr : Reads g rd a.eval) (ho : o.op = .move x ∨ o.op = .assign x) (h : rd x = some v) : Yields P g w a o v := by
  obtain ⟨h1, h2⟩ := hr _ _ h
  exact ⟨_, by rcases ho with ho | ho <;> simp [execOp, ho], h1.any h2⟩
theorem yields_pick {c x y : Operand} {v : V} (hr : Reads g rd a.eval) (ho : o.op = .pick c x y) (h : pureOp P rd o = some v) : Yields P g w a o v := by
  simp only [pureOp, ho] at h
  split at h
  · rename_i q hq
    have hb := (hr _ _ (asBool_ok hq)).1.scalar.1
    cases q with
    | true =>
      obtain ⟨h1, h2⟩ := hr _ _ h
      exact ⟨_, by simp [execOp, ho, hb, asBool], h1.any h2⟩
    | false =>
      obtain ⟨h1, h2⟩ := hr _ _ h
      exact ⟨_, by simp [execOp, ho, hb, asBool], h1.any h2⟩
  · cases h
theorem intBin_run {op : BinOp} {k : IntKind} {n n' : Int} {t : TypeId} {r : Value} (hs : op ≠ .shl ∧ op ≠ .shr) (h : intBin op k n n' = some r) : (binOp op t (.int k n) (.int k n')).run P w = .ok r w ∧ r.oneCell' = true := by
  cases op <;> simp only [intBin] at h <;> try (cases h; done)
  all_goals (first | (simp at hs; done) | skip)
  case quo => split at h; (cases h); (rename_i hn; cases h; simp [binOp, Op.intDiv, hn, Value.oneCell'])
  case rem => split at h; (cases h); (rename_i hn; cases h; simp [binOp, Op.intDiv, hn, Value.oneCell'])
  all_goals (cases h; simp [binOp, Op.intArith, Op.intCmp, Value.oneCell'])
theorem strBin_run {op : BinOp} {s s' : ByteArray} {t : TypeId} {r : Value} (h : strBin op s s' = some r) : (binOp op t (.string s) (.string s')).run P w = .ok r w ∧ r.oneCell' = true := by
  cases op <;> simp only [strBin] at h <;> try (cases h; done)
  case add =>
    split at h
    · rename_i hl
      cases h
      have : ¬ (((s.size + s'.size : Nat) : Int) > IntKind.i64.max) := by
        show ¬ (((s.size + s'.size : Nat) : Int) > 9223372036854775807)
        omega
      simp only [binOp, Op.stringOp, this, if_false]
      exact ⟨rfl, rfl⟩
    · cases h
  all_goals (cases h; simp [binOp, Op.stringOp, Value.oneCell'])
theorem eqGuard_int {op : BinOp} {t : TypeId} {x y : Operand} {k k' : IntKind} {n n' : Int} : (eqGuard op t x y (.int k n) (.int k' n')).run P w = .ok () w := by
  cases op <;> rfl
theorem eqGuard_str {op : BinOp} {t : TypeId} {x y : Operand} {s s' : ByteArray} : (eqGuard op t x y (.string s) (.string s')).run P w = .ok () w := by
  cases op <;> rfl
theorem binC_run {op : BinOp} {t : TypeId} {x y : Operand} {a b r : Value} (h : binC op a b = some r) : (do eqGuard op t x y a b; binOp op t a b : Sem Value).run P w = .ok r w ∧ r.oneCell' = true := by
  unfold binC at h
  split at h
  · rename_i k n k' n'
    simp only [Sem.run_bind, eqGuard_int, Result.andThen_ok]
    split at h
    · split at h
      · cases h
      · rename_i hn; cases h; simp [binOp, Op.shift, hn, Value.oneCell']
    · split at h
      · cases h
      · rename_i hn; cases h; simp [binOp, Op.shift, hn, Value.oneCell']
    · rename_i h1 h2
      split at h
      · rename_i e; subst e; exact intBin_run ⟨h1, h2⟩ h
      · cases h
  · simp only [Sem.run_bind, eqGuard_str, Result.andThen_ok]
    exact strBin_run h
  · cases h
theorem kind_bool {u : TypeDesc} (h : kindOf P u = some .bool) : u = .bool := by
  unfold kindOf at h; split at h <;> first | (cases h; rfl) | (cases h; done) | (simp at h; done) | (split at h <;> cases h)
theorem eqGuard_bool {op : BinOp} {t : TypeId} {x y : Operand} {s s' : Bool} : (eqGuard op t x y (.bool s) (.bool s')).run P w = .ok () w := by
  cases op <;> rfl
theorem yields_binOp {op : BinOp} {t t' : TypeId} {x y : Operand} {v : V} (hr : Reads g rd a.eval) (ho : o.op = .binOp op t x y t') (h : pureOp P rd o = some v) : Yields P g w a o v := by
  simp only [pureOp, ho] at h
  split at h
  · rename_i p q hx hy
    have e1 := (hr _ _ hx).1.scalar.1
    have e2 := (hr _ _ hy).1.scalar.1
    have hbool : ∀ {i : TyI}, tyOf P t = some i → i.kind = .bool → P.underlying t = some .bool := fun {i} h1 h2 => by
      obtain ⟨ti, u, z, _, k2, _, _, _, _, _, k3, _⟩ := tyOf_spec h1
      rw [h2] at k3
      rw [k2, kind_bool k3]
    split at h
    · rename_i hk
      obtain ⟨i, h1, h2⟩ := Option.map_eq_some_iff.1 hk
      cases h
      refine ⟨.bool (p == q), ?_, fun p => RVv rfl⟩
      simp only [execOp, ho, e1, e2, Sem.run_bind, eqGuard_bool, Result.andThen_ok, run_eql_bool w t p q (hbool h1 h2)]
      rfl
    · rename_i hk
      obtain ⟨i, h1, h2⟩ := Option.map_eq_some_iff.1 hk
      cases h
      refine ⟨.bool (!(p == q)), ?_, fun p => RVv rfl⟩
      simp only [execOp, ho, e1, e2, Sem.run_bind, eqGuard_bool, Result.andThen_ok, run_neq_bool w t p q (hbool h1 h2)]
      rfl
    · cases h
  · rename_i p q hx hy
    obtain ⟨r, hr', rfl⟩ := Option.map_eq_some_iff.1 h
    have e1 := (hr _ _ hx).1.scalar.1
    have e2 := (hr _ _ hy).1.scalar.1
    obtain ⟨h1, h2⟩ := binC_run (P := P) (w := w) (t := t) (x := x) (y := y) hr'
    refine ⟨r, ?_, fun p => RVv h2⟩
    simp only [execOp, ho, e1, e2, Sem.run_bind] at h1 ⊢
    rw [h1]
    rfl
  · cases h
theorem yields_unOp {op : UnOp} {t : TypeId} {x : Operand} {v : V} (hr : Reads g rd a.eval) (ho : o.op = .unOp op t x) (h : pureOp P rd o = some v) : Yields P g w a o v := by
  simp only [pureOp, ho] at h
  split at h
  · rename_i p hx
    obtain ⟨r, hr', rfl⟩ := Option.map_eq_some_iff.1 h
    have e1 := (hr _ _ hx).1.scalar.1
    have : (Op.unary op p).run P w = .ok r w ∧ r.oneCell' = true := by
      unfold unC at hr'
      split at hr' <;> try (cases hr'; done)
      all_goals (cases op <;> simp only at hr' <;> try (cases hr'; done))
      all_goals (cases hr'; simp [Op.unary, Op.intArith, Op.intBits, Value.oneCell'])
    refine ⟨r, ?_, fun p => RVv this.2⟩
    simp only [execOp, ho, e1, Sem.run_bind, this.1]
    rfl
  · cases h
theorem kind_int {u : TypeDesc} {k : IntKind} (h : kindOf P u = some (.int k)) : u = .int k := by
  unfold kindOf at h; split at h <;> first | (cases h; rfl) | (cases h; done) | (simp at h; done) | (split at h <;> cases h)
theorem kind_str {u : TypeDesc} (h : kindOf P u = some .str) : u = .string := by
  unfold kindOf at h; split at h <;> first | (cases h; rfl) | (cases h; done) | (simp at h; done) | (split at h <;> cases h)
theorem kind_slice {u : TypeDesc} {e : TypeId} (h : kindOf P u = some (.slice e)) : u = .slice e := by
  unfold kindOf at h; split at h <;> first | (cases h; rfl) | (cases h; done) | (simp at h; done) | (split at h <;> cases h)
theorem kind_arr {u : TypeDesc} {n : Nat} {e : TypeId} (h : kindOf P u = some (.arr n e)) : u = .array n e := by
  unfold kindOf at h; split at h <;> first | (cases h; rfl) | (cases h; done) | (simp at h; done) | (split at h <;> cases h)
theorem mapM_get {α β : Type} {f : α → Option β} : ∀ {l : List α} {r : List β}, l.mapM f = some r → r.length = l.length ∧ ∀ (j : Nat) y, r[j]? = some y → ∃ x, l[j]? = some x ∧ f x = some y
  | [], r, h => by simp at h; subst h; exact ⟨rfl, fun j y h => by simp at h⟩
  | x :: l, r, h => by
    simp only [List.mapM_cons] at h
    obtain ⟨y, hy, h⟩ := Option.bind_eq_some_iff.1 h
    obtain ⟨s, hs, h⟩ := Option.bind_eq_some_iff.1 h
    cases h
    obtain ⟨k1, k2⟩ := mapM_get hs
    refine ⟨by simp [k1], fun j z hz => ?_⟩
    cases j with
    | zero => simp at hz; subst hz; exact ⟨x, rfl, hy⟩
    | succ j => simp at hz; obtain ⟨q, hq, e⟩ := k2 j z hz; exact ⟨q, by simpa using hq, e⟩
theorem kind_struct {u : TypeDesc} {fs : List FI} (h : kindOf P u = some (.struct fs)) : ∃ fds : Array Field, u = .struct fds ∧ fds.size = fs.length ∧
    ∀ (j : Nat) f, fs[j]? = some f → ∃ fd ti ud, fds[j]? = some fd ∧ fd.offset = f.off ∧ P.info? fd.type = some ti ∧ ti.size = f.size ∧ 0 < f.size ∧ P.underlying fd.type = some ud ∧ f.agg = isAggD ud := by
  unfold kindOf at h
  split at h <;> try (first | (cases h; done) | (simp at h; done) | (split at h <;> cases h; done))
  rename_i fds
  obtain ⟨r, hr, e⟩ := Option.map_eq_some_iff.1 h
  cases e
  obtain ⟨k1, k2⟩ := mapM_get hr
  refine ⟨fds, rfl, by simp [k1], fun j f hf => ?_⟩
  obtain ⟨fd, hfd, e⟩ := k2 j f hf
  unfold fiOf at e
  split at e
  · rename_i ti ud h1 h2
    split at e
    · cases e
    · rename_i h0
      cases e
      exact ⟨fd, ti, ud, by simpa using hfd, rfl, h1, rfl, by show 0 < ti.size; omega, h2, rfl⟩
  · cases e
end Go.Eng
/- Operations that look at values alone, the rest. -/
set_option linter.unusedVariables false
set_option linter.unusedSimpArgs false
namespace Go.Eng
open Go.RowKit
variable {P : Program} {A : Ann} {g : G} {w : World} {rd : Operand → Option V} {a : Act} {o : Oper}
theorem rdAll_ok (hr : Reads g rd a.eval) : ∀ {xs : List Operand} {l : List V}, rdAll rd xs = some l → RVL g l (xs.map a.eval) ∧ ∀ x ∈ l, x.strip = x
  | [], l, h => by simp only [rdAll] at h; cases h; exact ⟨by simp only [List.map_nil, RVL], fun x hx => by cases hx⟩
  | x :: xs, l, h => by
    simp only [rdAll] at h
    split at h
    · rename_i v l' hv hl
      cases h
      obtain ⟨h1, h2⟩ := rdAll_ok hr hl
      obtain ⟨k1, k2⟩ := hr _ _ hv
      refine ⟨?_, fun y hy => ?_⟩
      · simp only [List.map_cons, RVL]; exact ⟨_, _, rfl, k1, h1⟩
      · cases hy with
        | head => exact k2
        | tail _ hy => exact h2 y hy
    · cases h
theorem RVL.ra : ∀ {l : List V} {cs : List Value}, RVL g l cs → l.all V.isC = true → RA g.F (l.map V.toC) cs
  | [], cs, h, _ => by simpa only [RVL, List.map_nil, RA] using h
  | x :: l, cs, h, ha => by
    simp only [RVL] at h
    obtain ⟨u, r, rfl, h2, h3⟩ := h
    simp only [List.all_cons, Bool.and_eq_true] at ha
    match x, ha.1 with
    | .c x, _ =>
      simp only [List.map_cons, V.toC, RA]
      simp only [RV] at h2
      exact ⟨u, r, rfl, h2.1, h2.2, RVL.ra h3 ha.2⟩
theorem yields_makeFunc {f : Fn} {first caps : Array Operand} {v : V} (hr : Reads g rd a.eval) (ho : o.op = .makeFunc f first caps) (h : pureOp P rd o = some v) : Yields P g w a o v := by
  simp only [pureOp, ho] at h
  split at h
  · rename_i h0
    obtain ⟨l, hl, rfl⟩ := Option.map_eq_some_iff.1 h
    obtain ⟨h1, h2⟩ := rdAll_ok hr hl
    have e : first = #[] := by
      have : first.toList = [] := by simpa using h0
      simpa using this
    refine ⟨.func f #[] (caps.map a.eval), by simp [execOp, ho, e, Instr.makeFunc], fun p => ?_⟩
    split
    · rename_i ha
      simp only [RV, RC, Value.cells, Array.toList]
      exact ⟨⟨_, rfl, by simpa using h1.ra ha⟩, rfl⟩
    · simp only [RV]
      exact ⟨_, rfl, by simpa using h1⟩
  · cases h
theorem RE.get {F : Fz} : ∀ {l : List C} {b o s : Nat} {i : Nat} {y : C}, RE F b o s l → l[i]? = some y → ∃ vs, vs.length = s ∧ At F b (o + i * s) vs ∧ RC F y vs
  | [], b, o, s, i, y, h, hi => by simp at hi
  | x :: l, b, o, s, i, y, h, hi => by
    simp only [RE] at h
    cases i with
    | zero => simp at hi; subst hi; simpa using h.1
    | succ i =>
      simp at hi
      have := RE.get h.2 hi
      rwa [show o + s + i * s = o + (i + 1) * s by rw [Nat.succ_mul]; omega] at this
theorem RE.drop {F : Fz} : ∀ {l : List C} {b o s : Nat} (n : Nat), RE F b o s l → RE F b (o + n * s) s (l.drop n)
  | l, b, o, s, 0, h => by simpa using h
  | [], b, o, s, n + 1, h => by simp only [List.drop_nil, RE]
  | x :: l, b, o, s, n + 1, h => by
    simp only [RE] at h
    have := RE.drop n h.2
    rwa [show o + s + n * s = o + (n + 1) * s by rw [Nat.succ_mul]; omega] at this
theorem RE.take {F : Fz} : ∀ {l : List C} {b o s : Nat} (n : Nat), RE F b o s l → RE F b o s (l.take n)
  | l, b, o, s, 0, h => by simp only [List.take_zero, RE]
  | [], b, o, s, n + 1, h => by simp only [List.take_nil, RE]
  | x :: l, b, o, s, n + 1, h => by
    simp only [RE] at h
    simp only [List.take_succ_cons, RE]
    exact ⟨h.1, RE.take n h.2⟩
/-- what an element's size is -/
theorem RC.size {F : Fz} {x : C} {vs : List Value} {n : Nat} (h : RC F x vs) (hx : x.cells.length = n) : vs.length = n := by rw [h.len, hx]
theorem RC.rlCells {F : Fz} {x : C} {vs : List Value} (h : RC F x vs) : RL F x.cells vs := by
  by_cases hx : x.isAgg = true
  · match x, hx with
    | .agg l, _ => show RL F l vs; simpa only [RC] using h
  · have hx : x.isAgg = false := by simpa using hx
    obtain ⟨u, rfl, hu⟩ := h.single hx
    have hc : x.cells = [x] := by cases x <;> first | rfl | simp [C.isAgg] at hx
    rw [hc]
    simp only [RL]
    exact ⟨u, [], rfl, hu, hx, rfl⟩
theorem RL.drop' {F : Fz} : ∀ {l : List C} {vs : List Value} (k : Nat), RL F l vs → RL F (l.drop k) (vs.drop k)
  | l, vs, 0, h => by simpa using h
  | [], vs, k + 1, h => by simp only [RL] at h; subst h; simp only [List.drop_nil, RL]
  | y :: l, vs, k + 1, h => by
    simp only [RL] at h
    obtain ⟨u, r, rfl, _, _, e4⟩ := h
    simpa using RL.drop' k e4
theorem yields_indexAddr {t : TypeId} {x i : Operand} {v : V} (hr : Reads g rd a.eval) (ho : o.op = .indexAddr t x i) (h : pureOp P rd o = some v) : Yields P g w a o v := by
  simp only [pureOp, ho] at h
  split at h
  · rename_i l n ti hx hi ht
    split at h
    · rename_i e hk
      split at h
      · rename_i ei he
        split at h
        · rename_i h0
          split at h
          · rename_i y hy
            split at h
            · rename_i hs
              cases h
              obtain ⟨i1, u1, z1, a1, a2, a3, _, _, _, _, a8, _⟩ := tyOf_spec ht
              rw [hk] at a8
              have := kind_slice a8; subst this
              obtain ⟨i2, u2, z2, b1, b2, b3, _⟩ := tyOf_spec he
              obtain ⟨k, hn⟩ := hr.int hi
              have hl := ((hr _ _ hx).1.c_one rfl).1
              generalize hux : a.eval x = ux at hl
              simp only [RC] at hl
              obtain ⟨aa, n1, c, e1, e2, e3, e4⟩ := hl
              cases e1
              have hlt : n.toNat < l.length := (List.getElem?_eq_some_iff.1 hy).1
              obtain ⟨b, off, s, rfl, hE⟩ := e4 (by intro e; subst e; simp at hlt)
              obtain ⟨vs, hv1, hv2, hv3⟩ := hE.get hy
              have hss : s = ei.size := by rw [← hv1]; exact hv3.size hs
              subst hss
              refine ⟨.pointer (some ⟨b, off + n.toNat * ei.size, none⟩), ?_, fun p => ?_⟩
              · have hx' : a.eval x = .slice (some ⟨b, off, none⟩) n1 c := hux
                have hlen : (0 ≤ n ∧ n < (n1 : Int)) := ⟨h0, by omega⟩
                simp [execOp, ho, Instr.indexAt, hx', hn, asIntOf, run_underlying a2, run_sizeOf' b1, b3, add_plain, hlen]
              · refine RVc ?_ rfl
                simp only [RC]
                exact ⟨b, _, vs, rfl, hv2, hv3.rlCells⟩
            · cases h
          · cases h
        · cases h
      · cases h
    · cases h
  · rename_i y n ti _ hx hi ht
    split at h
    · rename_i k e hk
      split at h
      · rename_i ei he
        split at h
        · rename_i h0
          obtain ⟨i1, u1, z1, a1, a2, a3, _, _, _, _, a8, _⟩ := tyOf_spec ht
          rw [hk] at a8
          have := kind_arr a8; subst this
          obtain ⟨i2, u2, z2, b1, b2, b3, _⟩ := tyOf_spec he
          obtain ⟨q, hn⟩ := hr.int hi
          have hx1 := (hr _ _ hx).1
          split at h
          · rename_i l
            cases h
            have hl := (hx1.c_one rfl).1
            generalize hux : a.eval x = ux at hl
            simp only [RC] at hl
            obtain ⟨bb, off, vs, e1, e2, e3⟩ := hl
            cases e1
            refine ⟨.pointer (some ⟨bb, off + n.toNat * ei.size, none⟩), ?_, fun p => RVc ?_ rfl⟩
            · simp [execOp, ho, Instr.indexAt, hux, hn, asIntOf, run_underlying a2, run_sizeOf' b1, b3, add_plain, h0, Instr.sureAddr]
            · simp only [RC]
              exact ⟨bb, _, vs.drop (n.toNat * ei.size), rfl, e2.drop _, e3.drop' _⟩
          · rename_i d b off _
            cases h
            simp only [RV] at hx1
            obtain ⟨bb, e1, e2⟩ := hx1
            refine ⟨.pointer (some ⟨bb, off + n.toNat * ei.size, none⟩), ?_, fun p => by simp only [RV]; exact ⟨bb, e1, rfl⟩⟩
            simp [execOp, ho, Instr.indexAt, e2, hn, asIntOf, run_underlying a2, run_sizeOf' b1, b3, add_plain, h0, Instr.sureAddr]
          · cases h
        · cases h
      · cases h
    · cases h
  · cases h
theorem RL.drop {F : Fz} : ∀ {l : List C} {vs : List Value} (k : Nat), RL F l vs → RL F (l.drop k) (vs.drop k)
  | l, vs, 0, h => by simpa using h
  | [], vs, k + 1, h => by simp only [RL] at h; subst h; simp only [List.drop_nil, RL]
  | y :: l, vs, k + 1, h => by
    simp only [RL] at h
    obtain ⟨u, r, rfl, _, _, e4⟩ := h
    simpa using RL.drop k e4
theorem aggV_true {u : Value} (h : aggV u = true) : ∃ cs, u = .agg cs := by
  cases u <;> first | exact ⟨_, rfl⟩ | simp [aggV] at h
theorem mkAgg_strip (l : List V) : (mkAgg l).strip = mkAgg l := by unfold Eng.mkAgg; split <;> rfl
theorem strip_strip (x : V) : x.strip.strip = x.strip := by cases x <;> rfl
theorem ofCells_strip {agg : Bool} {l : List V} {v : V} (h : ofCells agg l = some v) : v.strip = v := by
  unfold ofCells at h
  split at h
  · cases h; exact mkAgg_strip l
  · match l, h with
    | [x], h => cases h; exact strip_strip x
theorem take0 {α : Type} {l : List α} {n : Nat} {u : α} (h : (l.take n)[0]? = some u) : l[0]? = some u := by
  cases l with
  | nil => simp at h
  | cons x l => cases n with
    | zero => simp at h
    | succ n => simpa using h
theorem yields_fieldAddr {t : TypeId} {x : Operand} {f : Nat} {v : V} (hr : Reads g rd a.eval) (ho : o.op = .fieldAddr t x f) (h : pureOp P rd o = some v) : Yields P g w a o v := by
  simp only [pureOp, ho] at h
  split at h
  · rename_i y i hx ht
    split at h
    · rename_i fs hk
      split at h
      · rename_i fi hf
        obtain ⟨i1, u1, z1, a1, a2, a3, _, _, _, _, a8, _⟩ := tyOf_spec ht
        rw [hk] at a8
        obtain ⟨fds, rfl, hsz, hfs⟩ := kind_struct a8
        obtain ⟨fd, ti, ud, c1, c2, c3, c4, c5, c6, c7⟩ := hfs _ _ hf
        have h0 : ti.size ≠ 0 := by omega
        have hx1 := (hr _ _ hx).1
        split at h
        · rename_i d b off
          cases h
          simp only [RV] at hx1
          obtain ⟨bb, e1, e2⟩ := hx1
          refine ⟨.pointer (some ⟨bb, off + fi.off, none⟩), ?_, fun p => by simp only [RV]; exact ⟨bb, e1, rfl⟩⟩
          simp [execOp, ho, Instr.fieldAt, e2, run_underlying a2, c1, Instr.sureAddr, fieldPlace, run_sizeOf' c3, h0, add_plain, c2]
        · rename_i l
          cases h
          have hl := (hx1.c_one rfl).1
          generalize hux : a.eval x = ux at hl
          simp only [RC] at hl
          obtain ⟨bb, off, vs, e1, e2, e3⟩ := hl
          cases e1
          refine ⟨.pointer (some ⟨bb, off + fi.off, none⟩), ?_, fun p => RVc ?_ rfl⟩
          · simp [execOp, ho, Instr.fieldAt, hux, run_underlying a2, c1, Instr.sureAddr, fieldPlace, run_sizeOf' c3, h0, add_plain, c2]
          · simp only [RC]
            refine ⟨bb, _, vs.drop fi.off, rfl, e2.drop _, ?_⟩
            exact e3.drop _
        · cases h
      · cases h
    · cases h
  · cases h
theorem yields_field {t : TypeId} {x : Operand} {f : Nat} {v : V} (hr : Reads g rd a.eval) (ho : o.op = .field t x f) (h : pureOp P rd o = some v) : Yields P g w a o v := by
  simp only [pureOp, ho] at h
  split at h
  · rename_i y i hx ht
    split at h
    · rename_i fs hk
      split at h
      · rename_i fi hf
        split at h
        · rename_i hag
          obtain ⟨hag, hlen⟩ := hag
          obtain ⟨i1, u1, z1, a1, a2, a3, _, _, _, _, a8, _⟩ := tyOf_spec ht
          rw [hk] at a8
          obtain ⟨fds, rfl, hsz, hfs⟩ := kind_struct a8
          obtain ⟨fd, ti, ud, c1, c2, c3, c4, c5, c6, c7⟩ := hfs _ _ hf
          have hx1 := (hr _ _ hx).1
          have hnt : y.isTup = false := by cases y <;> simp_all [V.isAgg, V.isTup]
          obtain ⟨cs, hcs⟩ : ∃ cs, a.eval x = .agg cs := by
            cases y with
            | c y => simp only [RV] at hx1; simp only [V.isAgg] at hag; rw [hag] at hx1; exact aggV_true hx1.2.symm
            | agg l => simp only [RV] at hx1; obtain ⟨cs, e, _⟩ := hx1; exact ⟨cs, e⟩
            | nagg l => simp only [RV] at hx1; obtain ⟨cs, e, _⟩ := hx1; exact ⟨cs, e⟩
            | _ => simp [V.isAgg] at hag
          obtain ⟨h1, h2⟩ := hx1.cells hnt
          rw [hcs] at h1
          simp only [Value.cells] at h1
          have h3 := (h1.drop fi.off).take fi.size
          have h4 := (h2.drop fi.off).take fi.size
          obtain ⟨u, hu1, hu2⟩ := ofCells_ok (p := .none) h3 h4 h
          have hst := ofCells_strip h
          refine ⟨u, ?_, hu1.any hst⟩
          have hp : (part fd.type cs fd.offset).run P w = .ok u w := by
            refine run_part c3 c6 ?_
            rw [← c7, c2, c4]
            cases ha : fi.agg with
            | true =>
              simp only [ha, if_true] at hu2 ⊢
              rw [hu2]
              congr 1
              apply Array.ext'
              simp
            | false =>
              simp only [ha, Bool.false_eq_true, if_false] at hu2 ⊢
              have := take0 hu2.1
              rw [List.getElem?_drop] at this
              simpa using this
          simp [execOp, ho, Instr.field, hcs, run_underlying a2, c1, asAgg, hp]
        · cases h
      · cases h
    · cases h
  · cases h
theorem yields_index {t : TypeId} {x i : Operand} {v : V} (hr : Reads g rd a.eval) (ho : o.op = .index t x i) (h : pureOp P rd o = some v) : Yields P g w a o v := by
  simp only [pureOp, ho] at h
  split at h
  · rename_i s n ti hx hi ht
    split at h
    · rename_i hk
      split at h
      · rename_i h0
        obtain ⟨b, hb, rfl⟩ := Option.map_eq_some_iff.1 h
        obtain ⟨i1, u1, z1, a1, a2, a3, _, _, _, _, a8, _⟩ := tyOf_spec ht
        rw [hk] at a8
        have := kind_str a8; subst this
        obtain ⟨k, hn⟩ := hr.int hi
        have e1 := (hr _ _ hx).1.scalar.1
        refine ⟨.int .u8 b.toNat, ?_, fun p => RVv rfl⟩
        simp [execOp, ho, Instr.index, e1, hn, asIntOf, run_underlying a2, h0, hb]
      · cases h
    · cases h
  · cases h
theorem yields_extract {x : Operand} {i : Nat} {v : V} (hr : Reads g rd a.eval) (ho : o.op = .extract x i) (h : pureOp P rd o = some v) : Yields P g w a o v := by
  simp only [pureOp, ho] at h
  split at h
  · rename_i l hx
    obtain ⟨y, hy, rfl⟩ := Option.map_eq_some_iff.1 h
    have hx1 := (hr _ _ hx).1
    simp only [RV] at hx1
    obtain ⟨cs, e1, e2⟩ := hx1
    obtain ⟨h1, h2⟩ := e2.get
    have hlt : i < cs.toList.length := by rw [← h1]; exact (List.getElem?_eq_some_iff.1 hy).1
    have hu : cs.toList[i]? = some cs.toList[i] := List.getElem?_eq_getElem hlt
    have := h2 i y _ hy hu
    refine ⟨cs.toList[i], ?_, fun p => this.strip⟩
    have hu' : cs[i]? = some cs.toList[i] := by simp
    simp [execOp, ho, Instr.extract, e1, hu']
  · cases h
theorem yields_nilCheck {x : Operand} {v : V} (hr : Reads g rd a.eval) (ho : o.op = .nilCheck x) (h : pureOp P rd o = some v) : Yields P g w a o v := by
  simp only [pureOp, ho] at h
  split at h
  · rename_i d t off hx
    cases h
    have hx1 := (hr _ _ hx).1
    have hx2 := hx1
    simp only [RV] at hx1
    obtain ⟨b, e1, e2⟩ := hx1
    refine ⟨_, ?_, fun p => hx2.any rfl p⟩
    simp [execOp, ho, e2]
  · rename_i l hx
    cases h
    have hx1 := (hr _ _ hx).1
    have hl := (hx1.c_one rfl).1
    simp only [RC] at hl
    obtain ⟨bb, off, vs, e1, e2, e3⟩ := hl
    have e1' : a.eval x = .pointer (some ⟨bb, off, none⟩) := by simpa using e1
    refine ⟨_, ?_, fun p => hx1.any rfl p⟩
    simp [execOp, ho, e1']
  · cases h
theorem yields_load {t : TypeId} {x : Operand} {v : V} (hF : ∀ b i v, g.F b i = some v → w.cell? ⟨b, i, none⟩ = some v) (hr : Reads g rd a.eval) (ho : o.op = .load t x) (h : pureOp P rd o = some v) : Yields P g w a o v := by
  simp only [pureOp, ho] at h
  split at h
  · rename_i l i hx ht
    split at h
    · rename_i hs
      have hl := ((hr _ _ hx).1.c_one rfl).1
      simp only [RC] at hl
      obtain ⟨bb, off, vs, e1, e2, e3⟩ := hl
      have e1' : a.eval x = .pointer (some ⟨bb, off, none⟩) := by simpa using e1
      have hlen : vs.length = l.length := by simpa [C.cells] using RC.len (x := .agg l) (by simpa only [RC] using e3)
      have h3 := (e3.rvl (g := g)).take i.size
      have h4 : Flat ((l.map V.c).take i.size) := Flat.take (fun y hy => by
        simp only [List.mem_map] at hy
        obtain ⟨z, hz, rfl⟩ := hy
        exact ⟨e3.noAgg z hz, rfl⟩) _
      rw [← List.map_take] at h3 h4
      obtain ⟨u, hu1, hu2⟩ := ofCells_ok (p := .none) h3 h4 h
      have hst := ofCells_strip h
      refine ⟨u, ?_, hu1.any hst⟩
      have := run_loadVarF (P := P) hF ht e2 (by omega) (v := u) (by
        cases ha : i.agg with
        | true => simp only [ha, if_true] at hu2 ⊢; exact hu2
        | false =>
          simp only [ha, Bool.false_eq_true, if_false] at hu2 ⊢
          exact take0 hu2.1)
      simp [execOp, ho, Instr.loadAt, e1', Instr.sureAddr, this]
    · cases h
  · cases h
end Go.Eng
/- Slicing, building, the builtins that look at values alone. -/
set_option linter.unusedVariables false
set_option linter.unusedSimpArgs false
namespace Go.Eng
open Go.RowKit
variable {P : Program} {A : Ann} {g : G} {w : World} {rd : Operand → Option V} {a : Act} {o : Oper}
theorem headOK_spec {F : Fz} {b o s n : Nat} {l : List C} (h : RE F b o s l) (hh : headOK n l = true) (hl : l ≠ []) : s = n := by
  cases l with
  | nil => exact absurd rfl hl
  | cons x l =>
    simp only [RE] at h
    obtain ⟨⟨vs, h1, h2, h3⟩, _⟩ := h
    simp only [headOK, beq_iff_eq] at hh
    rw [← h1]; exact h3.size hh
theorem bnd_ok (hr : Reads g rd a.eval) {d : Int} {x : Option Operand} {n : Int} (h : bnd rd d x = some n) :
    (x = none ∧ n = d) ∨ (∃ k, x.map a.eval = some (.int k n)) := by
  cases x with
  | none => simp only [bnd] at h; cases h; exact .inl ⟨rfl, rfl⟩
  | some y => simp only [bnd] at h; obtain ⟨k, e⟩ := hr.int h; exact .inr ⟨k, by simp [e]⟩
theorem run_sliceBound {k : IntKind} {n : Int} {y : Nat} {c : BoundsCode} (h0 : 0 ≤ n) (h1 : n ≤ y) : (Instr.sliceBound (.int k n) y c).run P w = .ok n.toNat w := by
  simp [Instr.sliceBound, asIntOf, h0, h1]
theorem run_sliceBounds_plain {b : Bool} {len cap : Nat} {lo hi : Option Value} {l h : Int} (hlo : (lo = none ∧ l = 0) ∨ ∃ k, lo = some (.int k l)) (hhi : (hi = none ∧ h = len) ∨ ∃ k, hi = some (.int k h))
    (h0 : 0 ≤ l) (h1 : l ≤ h) (h2 : h ≤ cap) : (Instr.sliceBounds b len cap lo hi none).run P w = .ok (l.toNat, h.toNat, cap) w := by
  have hh0 : 0 ≤ h := by omega
  have h3 : l ≤ (h.toNat : Int) := by omega
  have r1 := fun (k : IntKind) (c : BoundsCode) => run_sliceBound (P := P) (w := w) (k := k) (c := c) h0 h3
  have r2 := fun (k : IntKind) (c : BoundsCode) => run_sliceBound (P := P) (w := w) (k := k) (c := c) hh0 h2
  have r3 := fun (k : IntKind) (c : BoundsCode) (hl : l ≤ (len : Int)) => run_sliceBound (P := P) (w := w) (k := k) (c := c) h0 hl
  rcases hlo with ⟨rfl, rfl⟩ | ⟨k, rfl⟩ <;> rcases hhi with ⟨rfl, rfl⟩ | ⟨k', rfl⟩ <;>
    simp [Instr.sliceBounds, r1, r2, r3, h1]
theorem run_sliceBounds_max {len cap : Nat} {lo hi mx : Option Value} {l h : Int} (hlo : (lo = none ∧ l = 0) ∨ ∃ k, lo = some (.int k l)) (hhi : ∃ k, hi = some (.int k h)) (hmx : ∃ k, mx = some (.int k h))
    (h0 : 0 ≤ l) (h1 : l ≤ h) (h2 : h ≤ cap) : (Instr.sliceBounds true len cap lo hi mx).run P w = .ok (l.toNat, h.toNat, h.toNat) w := by
  have hh0 : 0 ≤ h := by omega
  have h3 : l ≤ (h.toNat : Int) := by omega
  have h4 : h ≤ (h.toNat : Int) := by omega
  obtain ⟨k', rfl⟩ := hhi
  obtain ⟨k'', rfl⟩ := hmx
  have r1 := fun (k : IntKind) (c : BoundsCode) => run_sliceBound (P := P) (w := w) (k := k) (c := c) h0 h3
  have r2 := fun (k : IntKind) (c : BoundsCode) => run_sliceBound (P := P) (w := w) (k := k) (c := c) hh0 h2
  have r4 := fun (k : IntKind) (c : BoundsCode) => run_sliceBound (P := P) (w := w) (k := k) (c := c) hh0 h4
  rcases hlo with ⟨rfl, rfl⟩ | ⟨k, rfl⟩ <;>
    simp [Instr.sliceBounds, r1, r2, r4]
theorem sl_sub {F : Fz} {xs : List C} {ad : Option Addr} {n c l h m : Nat} (hn : n = xs.length) (h4 : xs ≠ [] → ∃ b o s, ad = some ⟨b, o, none⟩ ∧ RE F b o s xs) {sz : Nat} (hh : headOK sz xs = true) (h1 : l ≤ h) (h2 : h ≤ n) (h3 : h ≤ m) :
    RC F (.sl ((xs.drop l).take (h - l))) [.slice (if m = l then ad else ad.map (·.add (l * sz))) (h - l) (m - l)] := by
  simp only [RC]
  refine ⟨_, _, _, rfl, by simp; omega, by omega, fun hne => ?_⟩
  have hx : xs ≠ [] := by intro e; subst e; simp at hne
  obtain ⟨b, o, s, rfl, hE⟩ := h4 hx
  have hs := headOK_spec hE hh hx
  subst hs
  have hml : m ≠ l := by
    intro e
    apply hne
    have : h - l = 0 := by omega
    rw [this]; simp
  rw [if_neg hml]
  exact ⟨b, o + l * s, s, by simp [add_plain], (hE.drop l).take _⟩
theorem yields_slice {t : TypeId} {x : Operand} {lo hi mx : Option Operand} {v : V} (hr : Reads g rd a.eval) (ho : o.op = .slice t x lo hi mx) (h : pureOp P rd o = some v) : Yields P g w a o v := by
  simp only [pureOp, ho] at h
  split at h
  · rename_i y i hx ht
    obtain ⟨i1, u1, z1, a1, a2, a3, _, _, _, _, a8, _⟩ := tyOf_spec ht
    split at h
    · rename_i s hk
      rw [hk] at a8
      have := kind_str a8; subst this
      have e1 := (hr _ _ hx).1.scalar.1
      simp only [sliceV] at h
      split at h
      · cases h
      · split at h
        · rename_i l hh hl hhh
          split at h
          · rename_i hb
            cases h
            obtain ⟨b0, b1, b2⟩ := hb
            refine ⟨.string (s.extract l.toNat hh.toNat), ?_, fun p => RVv rfl⟩
            have hlo : (lo.map a.eval = none ∧ l = 0) ∨ ∃ k, lo.map a.eval = some (.int k l) := by
              rcases bnd_ok hr hl with ⟨e, q⟩ | q
              · exact .inl ⟨by rw [e]; rfl, q⟩
              · exact .inr q
            have hhi : (hi.map a.eval = none ∧ hh = (s.size : Int)) ∨ ∃ k, hi.map a.eval = some (.int k hh) := by
              rcases bnd_ok hr hhh with ⟨e, q⟩ | q
              · exact .inl ⟨by rw [e]; rfl, q⟩
              · exact .inr q
            have := run_sliceBounds_plain (P := P) (w := w) (b := false) (len := s.size) (cap := s.size) hlo hhi b0 b1 b2
            simp [execOp, ho, Instr.sliceAt, Instr.slice, run_underlying a2, e1, this]
          · cases h
        · cases h
    · rename_i e xs hk
      split at h
      · rename_i ei he
        split at h
        · rename_i hhd
          rw [hk] at a8
          have := kind_slice a8; subst this
          obtain ⟨i2, u2, z2, b1, b2, b3, _⟩ := tyOf_spec he
          have hlx := ((hr _ _ hx).1.c_one rfl).1
          generalize hux : a.eval x = ux at hlx
          simp only [RC] at hlx
          obtain ⟨ad, n, c, e1, e2, e3, e4⟩ := hlx
          cases e1
          simp only [sliceV] at h
          split at h
          · split at h
            · rename_i l hh hl hhh
              split at h
              · rename_i hb
                cases h
                obtain ⟨q0, q1, q2⟩ := hb
                have hlo : (lo.map a.eval = none ∧ l = 0) ∨ ∃ k, lo.map a.eval = some (.int k l) := by
                  rcases bnd_ok hr hl with ⟨e, q⟩ | q
                  · exact .inl ⟨by rw [e]; rfl, q⟩
                  · exact .inr q
                have hhi : (hi.map a.eval = none ∧ hh = (n : Int)) ∨ ∃ k, hi.map a.eval = some (.int k hh) := by
                  rcases bnd_ok hr hhh with ⟨e, q⟩ | q
                  · exact .inl ⟨by rw [e]; rfl, by rw [q, e2]⟩
                  · exact .inr q
                have := run_sliceBounds_plain (P := P) (w := w) (b := true) (len := n) (cap := c) hlo hhi q0 q1 (by omega)
                refine ⟨.slice (if c = l.toNat then ad else ad.map (·.add (l.toNat * ei.size))) (hh.toNat - l.toNat) (c - l.toNat), ?_, fun p => RVc (sl_sub (c := 0) e2 e4 hhd (by omega) (by omega) (by omega)) rfl⟩
                simp [execOp, ho, Instr.sliceAt, Instr.slice, run_underlying a2, hux, this, run_sizeOf' b1, b3]
              · cases h
            · cases h
          · rename_i m
            split at h
            · rename_i l hh q hl hhh hq
              split at h
              · rename_i hb
                cases h
                obtain ⟨q0, q1, q2, q3, q4⟩ := hb
                have hlo : (lo.map a.eval = none ∧ l = 0) ∨ ∃ k, lo.map a.eval = some (.int k l) := by
                  rcases bnd_ok hr hl with ⟨e, q⟩ | q
                  · exact .inl ⟨by rw [e]; rfl, q⟩
                  · exact .inr q
                have hhi : ∃ k, hi.map a.eval = some (.int k hh) := by
                  rcases bnd_ok hr hhh with ⟨e, q⟩ | q
                  · rw [e] at q4; simp at q4
                  · exact q
                have hmx : ∃ k, (some m).map a.eval = some (.int k hh) := by
                  obtain ⟨k, e⟩ := hr.int hq
                  exact ⟨k, by simp [e, q3]⟩
                have := run_sliceBounds_max (P := P) (w := w) (len := n) (cap := c) hlo hhi hmx q0 q1 (by omega)
                refine ⟨.slice (if hh.toNat = l.toNat then ad else ad.map (·.add (l.toNat * ei.size))) (hh.toNat - l.toNat) (hh.toNat - l.toNat), ?_, fun p => ?_⟩
                · simp only [Option.map_some] at this
                  simp [execOp, ho, Instr.sliceAt, Instr.slice, run_underlying a2, hux, this, run_sizeOf' b1, b3]
                · simp only [RV]
                  refine ⟨sl_sub (c := 0) e2 e4 hhd (by omega) (by omega) (by omega), fun a n c hu hn => ?_⟩
                  cases hu
                  omega
              · cases h
            · cases h
        · cases h
      · cases h
    · cases h
  · cases h
theorem minmax_run {im : Bool} {l : List V} {v : V} (h : minmax im l = some v) : ∃ k x y, l = [.c (.v (.int k x)), .c (.v (.int k y))] ∧ v = .c (.v (.int k (if im then (if y > x then y else x) else (if y < x then y else x)))) := by
  unfold minmax at h
  split at h
  · split at h
    · rename_i k a k' b e
      subst e
      cases h
      exact ⟨k, a, b, rfl, rfl⟩
    · cases h
  · cases h
theorem yields_builtin {c : Call} {b : Builtin} {v : V} (hr : Reads g rd a.eval) (ho : o.op = .call c) (hc : c.callee = .builtin b) (h : pureOp P rd o = some v) : Yields P g w a o v := by
  simp only [pureOp, ho] at h
  rw [hc] at h
  split at h
  · rename_i v' e1 hall
    cases e1
    obtain ⟨h1, h2⟩ := rdAll_ok hr hall
    obtain ⟨x, hargs⟩ : ∃ x, c.args.toList.map a.eval = [x] := by
      have := h1.get.1
      match hm : c.args.toList.map a.eval, this with
      | [x], _ => exact ⟨x, rfl⟩
    have hargs' : c.args.map a.eval = #[x] := by
      apply Array.ext'; simpa using hargs
    rw [hargs] at h1
    simp only [RVL] at h1
    obtain ⟨u, r, e, hv, _⟩ := h1
    cases e
    split at h
    · rename_i s i hty
      split at h
      · rename_i hk
        cases h
        obtain ⟨t, ht, ht'⟩ := Option.bind_eq_some_iff.1 hty
        obtain ⟨i1, u1, z1, a1, a2, a3, _, _, _, _, a8, _⟩ := tyOf_spec ht'
        rw [hk] at a8
        have := kind_str a8; subst this
        have e2 := hv.scalar.1
        subst e2
        refine ⟨.int .i64 s.size, ?_, fun p => RVv rfl⟩
        simp [execOp, ho, resolve, hc, invoke, builtin, Builtin.len_, ht, hargs', run_underlying a2, goInt]
      · cases h
    · rename_i l i hty
      split at h
      · rename_i e hk
        cases h
        obtain ⟨t, ht, ht'⟩ := Option.bind_eq_some_iff.1 hty
        obtain ⟨i1, u1, z1, a1, a2, a3, _, _, _, _, a8, _⟩ := tyOf_spec ht'
        rw [hk] at a8
        have := kind_slice a8; subst this
        have hl := (hv.c_one rfl).1
        simp only [RC] at hl
        obtain ⟨ad, n, cc, e1, e2, e3, e4⟩ := hl
        cases e1
        refine ⟨.int .i64 l.length, ?_, fun p => RVv rfl⟩
        simp [execOp, ho, resolve, hc, invoke, builtin, Builtin.len_, ht, hargs', run_underlying a2, goInt, e2]
      · cases h
    · cases h
  · rename_i l e1 hall
    cases e1
    obtain ⟨k, x, y, rfl, rfl⟩ := minmax_run h
    obtain ⟨h1, h2⟩ := rdAll_ok hr hall
    simp only [RVL] at h1
    obtain ⟨u, r, e, hx, u', r', e', hy, e''⟩ := h1
    have ex := hx.scalar.1
    have ey := hy.scalar.1
    subst ex; subst ey; subst e''; subst e'
    have hargs' : c.args.map a.eval = #[.int k x, .int k y] := by apply Array.ext'; simpa using e
    refine ⟨.int k (if y < x then y else x), ?_, fun p => RVv rfl⟩
    simp [execOp, ho, resolve, hc, invoke, builtin, Builtin.min_, hargs', Builtin.min2]
  · rename_i l e1 hall
    cases e1
    obtain ⟨k, x, y, rfl, rfl⟩ := minmax_run h
    obtain ⟨h1, h2⟩ := rdAll_ok hr hall
    simp only [RVL] at h1
    obtain ⟨u, r, e, hx, u', r', e', hy, e''⟩ := h1
    have ex := hx.scalar.1
    have ey := hy.scalar.1
    subst ex; subst ey; subst e''; subst e'
    have hargs' : c.args.map a.eval = #[.int k x, .int k y] := by apply Array.ext'; simpa using e
    refine ⟨.int k (if y > x then y else x), ?_, fun p => RVv rfl⟩
    simp [execOp, ho, resolve, hc, invoke, builtin, Builtin.max_, hargs', Builtin.max2]
  · cases h
theorem constV_v {u z : Value} (h : constV u = some (.c (.v z))) : u = z := by
  unfold constV at h
  split at h <;> first | (cases h; rfl) | (cases h; done)
theorem kind_map {u : TypeDesc} {kd : TypeDesc} {e : TypeId} (h : kindOf P u = some (.map kd e)) : ∃ k, u = .map k e ∧ P.underlying k = some kd ∧ ((∃ q, kd = .int q) ∨ kd = .string) := by
  unfold kindOf at h
  split at h <;> first | (cases h; done) | (simp at h; done) | skip
  rename_i k e'
  split at h
  · rename_i q hq; cases h; exact ⟨k, rfl, hq, .inl ⟨q, rfl⟩⟩
  · rename_i hq; cases h; exact ⟨k, rfl, hq, .inr rfl⟩
  · cases h
theorem bytesC_len : ∀ {l : List C} {ns : List Int}, bytesC l = some ns → ns.length = l.length := by
  intro l
  induction l with
  | nil => intro ns h; simp only [bytesC] at h; cases h; rfl
  | cons x r ih =>
    intro ns h
    unfold bytesC at h
    split at h
    · rename_i e; cases e
    · rename_i e; cases e
      obtain ⟨l, hl, rfl⟩ := Option.map_eq_some_iff.1 h
      simp [ih hl]
    · cases h
theorem bytesC_one {F : Fz} {b o s : Nat} {x : C} {r : List C} {ns : List Int} (h : bytesC (x :: r) = some ns) (he : RE F b o s (x :: r)) : s = 1 := by
  unfold bytesC at h
  split at h
  · rename_i e; cases e
  · rename_i e; cases e
    simp only [RE, RC] at he
    obtain ⟨⟨vs, k1, k2, k3, _⟩, _⟩ := he
    subst k3
    simpa using k1.symm
  · cases h
theorem bytesC_at {F : Fz} {b : Nat} : ∀ {l : List C} {o : Nat} {ns : List Int}, bytesC l = some ns → RE F b o 1 l → ∀ (j : Nat) n, ns[j]? = some n → F b (o + j) = some (.int .u8 n) := by
  intro l
  induction l with
  | nil => intro o ns h _ j n hj; simp only [bytesC] at h; cases h; simp at hj
  | cons x r ih =>
    intro o ns h he j n hj
    unfold bytesC at h
    split at h
    · rename_i e; cases e
    · rename_i e; cases e
      obtain ⟨l, hl, rfl⟩ := Option.map_eq_some_iff.1 h
      simp only [RE, RC] at he
      obtain ⟨⟨vs, k1, k2, k3, _⟩, k4⟩ := he
      subst k3
      cases j with
      | zero =>
        simp at hj; subst hj
        have := k2 0 _ rfl
        simpa using this
      | succ j =>
        simp at hj
        have := ih hl k4 j n hj
        rwa [show o + 1 + j = o + (j + 1) by omega] at this
    · cases h
theorem yields_convert {s t : TypeId} {x : Operand} {v : V} (hF : ∀ b i v, g.F b i = some v → w.cell? ⟨b, i, none⟩ = some v) (hr : Reads g rd a.eval) (ho : o.op = .convert s t x) (h : pureOp P rd o = some v) : Yields P g w a o v := by
  simp only [pureOp, ho] at h
  split at h
  · rename_i kk n i j hx hi hj
    split at h <;> cases h
    rename_i k1 k2 e1 e2
    obtain ⟨ti, u, z, h1, h2, _, _, _, _, _, h8, _⟩ := tyOf_spec hi
    obtain ⟨ti', u', z', h1', h2', _, _, _, _, _, h8', _⟩ := tyOf_spec hj
    rw [e1] at h8; rw [e2] at h8'
    have := kind_int h8; subst this
    have := kind_int h8'; subst this
    have e3 := (hr _ _ hx).1.scalar.1
    refine ⟨.int k2 (k2.wrap n), ?_, fun p => RVv rfl⟩
    simp [execOp, ho, e3, convert, run_underlying h2, run_underlying h2', Conv.intToInt]
  · rename_i b i j hx hi hj
    split at h <;> cases h
    rename_i e1 e2
    obtain ⟨ti, u, z, h1, h2, _, _, _, _, _, h8, _⟩ := tyOf_spec hi
    obtain ⟨ti', u', z', h1', h2', _, _, _, _, _, h8', _⟩ := tyOf_spec hj
    rw [e1] at h8; rw [e2] at h8'
    have := kind_str h8; subst this
    have := kind_str h8'; subst this
    have e3 := (hr _ _ hx).1.scalar.1
    refine ⟨.string b, ?_, fun p => RVv rfl⟩
    simp [execOp, ho, e3, convert, run_underlying h2, run_underlying h2']
  · rename_i l i j hx hi hj
    split at h
    · rename_i e e1 e2
      split at h
      · rename_i hu
        obtain ⟨ns, hns, rfl⟩ := Option.map_eq_some_iff.1 h
        obtain ⟨ti, u, z, h1, h2, _, _, _, _, _, h8, _⟩ := tyOf_spec hi
        obtain ⟨ti', u', z', h1', h2', _, _, _, _, _, h8', _⟩ := tyOf_spec hj
        rw [e1] at h8; rw [e2] at h8'
        have := kind_slice h8; subst this
        have := kind_str h8'; subst this
        have he : P.underlying e = some (.int .u8) := by
          cases hte : tyOf P e with
          | none => rw [hte] at hu; cases hu
          | some ei =>
            rw [hte] at hu
            obtain ⟨ti2, u2, z2, k1, k2, _, _, _, _, _, k8, _⟩ := tyOf_spec hte
            cases hk : ei.kind with
            | int q =>
              rw [hk] at k8
              have := kind_int k8; subst this
              simp only [Option.map_some, hk] at hu
              cases q <;> simp [isU8] at hu
              exact k2
            | _ => simp [hk, isU8] at hu
        have hl := ((hr _ _ hx).1.c_one rfl).1
        simp only [RC] at hl
        obtain ⟨ad, n, c, q1, q2, q3, q4⟩ := hl
        have hev : a.eval x = .slice ad n c := by simpa using q1
        have hlen : ns.length = l.length := bytesC_len hns
        refine ⟨_, ?_, fun p => RVv rfl⟩
        have hrun : (Conv.bytesToString (.slice ad n c)).run P w = .ok (.string (ns.foldl (fun r n => r.push (UInt8.ofNat n.toNat)) ByteArray.empty)) w := by
          cases ad with
          | none =>
            cases l with
            | nil =>
              simp only [bytesC] at hns; cases hns
              simp [Conv.bytesToString, Sem.run_pure]
            | cons y r => obtain ⟨_, _, _, q5, _⟩ := q4 (by simp); cases q5
          | some A0 =>
            refine run_bytesToString w A0 n c ns ?_
            have := run_loadCells_list (P := P) (w := w) A0 (ns.map (Value.int .u8)) (fun j v hj => by
              cases l with
              | nil => simp only [bytesC] at hns; cases hns; simp at hj
              | cons y r =>
                obtain ⟨b, o, s, q5, q6⟩ := q4 (by simp)
                cases q5
                have hs : s = 1 := bytesC_one hns q6
                subst hs
                rw [List.getElem?_map] at hj
                obtain ⟨m, hm, rfl⟩ := Option.map_eq_some_iff.1 hj
                have hc := hF _ _ _ (bytesC_at hns q6 j m hm)
                unfold Addr.add
                split
                · rename_i hj0
                  simpa [hj0] using hc
                · exact hc)
            rw [List.length_map, hlen, ← q2] at this
            simpa using this
        simp only [execOp, ho, hev, Sem.run_bind, run_convert_bytes_string w s t e ad n c h2 he h2', hrun, Result.andThen_ok]
        rfl
      · cases h
    · cases h
  · cases h
theorem findC_now {F : Fz} {kd : TypeDesc} {k : Value} : ∀ {es : List MapEntry} {vs : List C} {r : Option C} (i : Nat), RA F vs (es.map (·.val)) → findC kd k (es.map (·.key)) vs = some r →
    match r with
    | some y => ∃ j u, Instr.findNow kd k es i = some (some (j, u)) ∧ RC F y u.cells.toList ∧ y.isAgg = aggV u
    | none => Instr.findNow kd k es i = some none
  | [], vs, r, i, h, hf => by
    simp only [List.map_nil, findC] at hf
    cases hf
    rfl
  | e :: es, vs, r, i, h, hf => by
    cases vs with
    | nil => simp [RA] at h
    | cons y ys =>
      simp only [List.map_cons, RA, List.cons.injEq] at h
      obtain ⟨u, rs, ⟨rfl, rfl⟩, h1, h2, h3⟩ := h
      simp only [List.map_cons, findC, List.drop_succ_cons, List.drop_zero] at hf
      simp only [Instr.findNow]
      cases hs : Instr.sameNow kd k e.key with
      | none => rw [hs] at hf; cases hf
      | some b =>
        rw [hs] at hf
        cases b with
        | true => simp only at hf ⊢; cases hf; exact ⟨i, e.val, rfl, h1, h2⟩
        | false => simp only at hf ⊢; exact findC_now (i + 1) h3 hf
theorem findC_mem {F : Fz} {kd : TypeDesc} {k : Value} : ∀ {es : List MapEntry} {vs : List C} {r : Option C}, RA F vs (es.map (·.val)) → findC kd k (es.map (·.key)) vs = some r →
    match r with
    | some y => ∃ e ∈ es, Instr.sameNow kd k e.key = some true ∧ RC F y e.val.cells.toList ∧ y.isAgg = aggV e.val
    | none => ∀ e ∈ es, Instr.sameNow kd k e.key = some false
  | [], vs, r, h, hf => by
    simp only [List.map_nil, findC] at hf
    cases hf
    intro e he
    cases he
  | e :: es, vs, r, h, hf => by
    cases vs with
    | nil => simp [RA] at h
    | cons y ys =>
      simp only [List.map_cons, RA, List.cons.injEq] at h
      obtain ⟨u, rs, ⟨rfl, rfl⟩, h1, h2, h3⟩ := h
      simp only [List.map_cons, findC, List.drop_succ_cons, List.drop_zero] at hf
      cases hs : Instr.sameNow kd k e.key with
      | none => rw [hs] at hf; cases hf
      | some b =>
        rw [hs] at hf
        cases b with
        | true => simp only at hf ⊢; cases hf; exact ⟨e, List.mem_cons_self .., hs, h1, h2⟩
        | false =>
          simp only at hf ⊢
          have ih := findC_mem h3 hf
          cases r with
          | some z => obtain ⟨e', q1, q2⟩ := ih; exact ⟨e', List.mem_cons_of_mem _ q1, q2⟩
          | none =>
            intro e' he'
            rcases List.mem_cons.1 he' with rfl | he'
            · exact hs
            · exact ih e' he'
theorem same_int {kd : TypeDesc} {k : Value} {n : Int} {b : Bool} (h : Instr.sameNow kd k (.int .i64 n) = some b) : ∃ q a, kd = .int q ∧ k = .int .i64 a ∧ b = (a == n) := by
  unfold Instr.sameNow at h
  split at h
  · rename_i q k' a k'' b' e1 e2
    cases e2
    split at h
    · rename_i hk; subst hk; cases h; exact ⟨_, _, rfl, rfl, rfl⟩
    · cases h
  all_goals simp_all
theorem findNow_hit {q : IntKind} {a : Int} {e : MapEntry} : ∀ {es : List MapEntry} (i : Nat), (∀ x ∈ es, ∃ n, x.key = .int .i64 n) → (es.map (·.key)).Nodup → e ∈ es → e.key = .int .i64 a → ∃ j, Instr.findNow (.int q) (.int .i64 a) es i = some (some (j, e.val))
  | [], _, _, _, he, _ => by cases he
  | x :: es, i, hk, hn, he, ha => by
    obtain ⟨n, hx⟩ := hk x (List.mem_cons_self ..)
    simp only [List.map_cons, List.nodup_cons] at hn
    simp only [Instr.findNow, hx, Instr.sameNow, if_true]
    by_cases hna : a = n
    · subst hna
      simp only [beq_self_eq_true]
      rcases List.mem_cons.1 he with rfl | he
      · exact ⟨i, rfl⟩
      · exact absurd (List.mem_map.2 ⟨e, he, by rw [ha, hx]⟩) hn.1
    · have : (a == n) = false := by simpa using hna
      simp only [this]
      rcases List.mem_cons.1 he with rfl | he
      · rw [ha] at hx; cases hx; exact absurd rfl hna
      · exact findNow_hit (i + 1) (fun y hy => hk y (List.mem_cons_of_mem _ hy)) hn.2 he ha
theorem findNow_miss {q : IntKind} {a : Int} : ∀ {es : List MapEntry} (i : Nat), (∀ x ∈ es, ∃ n, x.key = .int .i64 n ∧ a ≠ n) → Instr.findNow (.int q) (.int .i64 a) es i = some none
  | [], _, _ => rfl
  | x :: es, i, hk => by
    obtain ⟨n, hx, hna⟩ := hk x (List.mem_cons_self ..)
    have : (a == n) = false := by simpa using hna
    simp only [Instr.findNow, hx, Instr.sameNow, if_true, this]
    exact findNow_miss (i + 1) (fun y hy => hk y (List.mem_cons_of_mem _ hy))
/-- the entries lie in any order -/
theorem findC_any {F : Fz} {kd : TypeDesc} {k : Value} {es es' : List MapEntry} {vs : List C} {r : Option C} (ho : es = es' ∨ (es.Perm es' ∧ (es'.map (·.key)).Nodup ∧ ∀ x ∈ es'.map (·.key), ∃ n, x = .int .i64 n)) (h : RA F vs (es'.map (·.val))) (hf : findC kd k (es'.map (·.key)) vs = some r) :
    match r with
    | some y => ∃ j u, Instr.findNow kd k es 0 = some (some (j, u)) ∧ RC F y u.cells.toList ∧ y.isAgg = aggV u
    | none => Instr.findNow kd k es 0 = some none := by
  rcases ho with rfl | ⟨hp, hn, hi⟩
  · exact findC_now 0 h hf
  · have hm := findC_mem h hf
    have hk : ∀ x ∈ es, ∃ n, x.key = .int .i64 n := fun x hx => hi _ (List.mem_map.2 ⟨x, hp.mem_iff.1 hx, rfl⟩)
    have hn' : (es.map (·.key)).Nodup := (hp.map _).nodup_iff.2 hn
    cases r with
    | some y =>
      obtain ⟨e, he, hs, h1, h2⟩ := hm
      have he' := hp.mem_iff.2 he
      obtain ⟨n, hkn⟩ := hk e he'
      rw [hkn] at hs
      obtain ⟨q, a, rfl, rfl, hb⟩ := same_int hs
      have ha : a = n := by simpa using hb.symm
      subst ha
      obtain ⟨j, hj⟩ := findNow_hit (q := q) 0 hk hn' he' hkn
      exact ⟨j, e.val, hj, h1, h2⟩
    | none =>
      cases es with
      | nil => rfl
      | cons x xs =>
        obtain ⟨n, hkn⟩ := hk x (List.mem_cons_self ..)
        have hs := hm x (hp.mem_iff.1 (List.mem_cons_self ..))
        rw [hkn] at hs
        obtain ⟨q, a, rfl, rfl, hb⟩ := same_int hs
        refine findNow_miss 0 fun y hy => ?_
        obtain ⟨n', hk'⟩ := hk y hy
        have hs' := hm y (hp.mem_iff.1 hy)
        rw [hk'] at hs'
        obtain ⟨q', a', _, e2, hb'⟩ := same_int hs'
        cases e2
        exact ⟨n', hk', by simpa using hb'.symm⟩
theorem yields_lookup {t : TypeId} {x i : Operand} {ok : Bool} {v : V} (hM : ∀ b es, g.F.m b = some es → ∃ clock, w.heap[b]? = some (.map es clock)) (hr : Reads g rd a.eval) (ho : o.op = .lookup t x i ok) (h : pureOp P rd o = some v) : Yields P g w a o v := by
  simp only [pureOp, ho] at h
  split at h
  · rename_i ks vs k ti hx hi ht
    split at h
    · rename_i kd e hk
      obtain ⟨i1, u1, z1, a1, a2, a3, _, _, _, _, a8, _⟩ := tyOf_spec ht
      rw [hk] at a8
      obtain ⟨key, rfl, hkd, hkk⟩ := kind_map a8
      have hl := ((hr _ _ hx).1.c_one rfl).1
      generalize hux : a.eval x = ux at hl
      simp only [RC] at hl
      obtain ⟨b, es, es', e1, e2, e5, e3, e4⟩ := hl
      cases e1
      obtain ⟨clock, hh⟩ := hM b es e2
      have hkv : a.eval i = k := by
        have := ((hr _ _ hi).1.c_one rfl).1
        simp only [RC] at this
        simpa using this.1
      have hfind := fun r hf => findC_any (F := g.F) (kd := kd) (k := k) (es := es.toList) (es' := es') (vs := vs) (r := r) (by rw [e3]; exact e5) e4 (by rw [e3]; exact hf)
      have hget : (getObj b).run P w = .ok (.map es clock) w := by simp [getObj, Sem.run, hh]
      have hchk' : ∀ b n, (Instr.checkKey b (n + 1) key k).run P w = .ok () w := fun b n => by
        rcases hkk with ⟨q, rfl⟩ | rfl <;> simp only [Instr.checkKey, Sem.run_bind, run_underlying hkd, Result.andThen_ok] <;> rfl
      have hchk : (Instr.checkKey es.isEmpty 10000 key k).run P w = .ok () w := hchk' es.isEmpty 9999
      have hz : ∀ z, zeroC P e = some z → (zeroValue e).run P w = .ok z w := fun z hz => by
        unfold zeroC at hz
        split at hz
        · rename_i z0 h0
          split at hz
          · rename_i z' hc
            cases hz
            obtain ⟨ii, h1, h2⟩ := Option.bind_eq_some_iff.1 h0
            rw [constV_v hc] at h2
            simp [zeroValue, typeInfo, h1, h2]
          · cases hz
        · cases hz
      split at h
      · rename_i z y hzc hf
        split at h
        · cases h
        · rename_i hag
          cases h
          obtain ⟨j, u, hn, hrc, hagg⟩ := hfind _ hf
          have hu : aggV u = false := by rw [← hagg]; simpa using hag
          have hcells : u.cells.toList = [u] := by cases u <;> simp_all [aggV, Value.cells]
          have hfk : (Instr.findKey key k es.toList).run P w = .ok (some (j, u)) w := by simp [Instr.findKey, run_underlying hkd, hn]
          cases ok with
          | true =>
            refine ⟨.tuple #[u, .bool true], by simp [execOp, ho, Instr.lookup, run_underlying a2, hux, hkv, hget, hchk, hfk], fun p => ?_⟩
            simp only [if_true, RV, RVL]
            exact ⟨_, rfl, u, _, rfl, ⟨hrc, hagg⟩, .bool true, [], rfl, ⟨by simp [RC, Value.cells, Value.oneCell'], rfl⟩, rfl⟩
          | false =>
            refine ⟨u, by simp [execOp, ho, Instr.lookup, run_underlying a2, hux, hkv, hget, hchk, hfk], fun p => ?_⟩
            simp only [Bool.false_eq_true, if_false, RV]
            exact ⟨hrc, hagg⟩
      · rename_i z hzc hf
        cases h
        have hn := hfind _ hf
        have hfk : (Instr.findKey key k es.toList).run P w = .ok none w := by simp [Instr.findKey, run_underlying hkd, hn]
        have hz' := hz z hzc
        have hz1 : z.cells.toList = [z] ∧ z.oneCell' = true ∧ aggV z = false := by
          unfold zeroC at hzc
          split at hzc
          · rename_i z0 h0
            split at hzc
            · rename_i z' hc
              cases hzc
              have := constV_v hc
              subst this
              unfold constV at hc
              split at hc <;> first | (cases hc; exact ⟨rfl, rfl, rfl⟩) | (cases hc; done)
            · cases hzc
          · cases hzc
        cases ok with
        | true =>
          refine ⟨.tuple #[z, .bool false], by simp [execOp, ho, Instr.lookup, run_underlying a2, hux, hkv, hget, hchk, hfk, hz'], fun p => ?_⟩
          simp only [if_true, RV, RVL]
          exact ⟨_, rfl, z, _, rfl, ⟨by simp only [RC]; exact ⟨hz1.1, hz1.2.1⟩, hz1.2.2.symm⟩, .bool false, [], rfl, ⟨by simp [RC, Value.cells, Value.oneCell'], rfl⟩, rfl⟩
        | false =>
          refine ⟨z, by simp [execOp, ho, Instr.lookup, run_underlying a2, hux, hkv, hget, hchk, hfk, hz'], fun p => ?_⟩
          simp only [Bool.false_eq_true, if_false, RV]
          exact ⟨by simp only [RC]; exact ⟨hz1.1, hz1.2.1⟩, hz1.2.2.symm⟩
      · cases h
    · cases h
  · cases h
end Go.Eng
/- Structs written out; what an operation that looks at values alone yields. -/
set_option linter.unusedVariables false
set_option linter.unusedSimpArgs false
namespace Go.Eng
open Go.RowKit
variable {P : Program} {A : Ann} {g : G} {w : World} {rd : Operand → Option V} {a : Act} {o : Oper}
theorem run_mapM {α β : Type} {f : α → Sem β} : ∀ {l : List α} {r : List β}, r.length = l.length → (∀ (i : Nat) x y, l[i]? = some x → r[i]? = some y → (f x).run P w = .ok y w) → (l.mapM f).run P w = .ok r w
  | [], [], _, _ => by simp
  | x :: l, y :: r, hl, h => by
    have h1 := h 0 x y rfl rfl
    have h2 := run_mapM (l := l) (r := r) (by simpa using hl) (fun i p q hp hq => h (i + 1) p q (by simpa using hp) (by simpa using hq))
    simp [List.mapM_cons, h1, h2]
def setR : List Value → Nat → List Value → List Value
  | l, _, [] => l
  | l, o, x :: r => setR (l.set o x) (o + 1) r
theorem set_fold : ∀ (vs : List Value) (k off : Nat) (cs : Array Value), ((vs.zipIdx k).foldl (fun cs (x : Value × Nat) => cs.setIfInBounds (off + x.2) x.1) cs).toList = setR cs.toList (off + k) vs
  | [], k, off, cs => by simp [setR]
  | v :: vs, k, off, cs => by
    simp only [List.zipIdx_cons, List.foldl_cons]
    rw [set_fold vs (k + 1) off]
    simp [setR, Nat.add_assoc]
theorem RVL.set {l : List V} {cs : List Value} (h : RVL g l cs) (n : Nat) {x : V} {u : Value} (hx : RV g .none x u) : RVL g (l.set n x) (cs.set n u) := by
  obtain ⟨h1, h2⟩ := h.get
  refine RVL.mk (by simp [h1]) fun i y v hy hv => ?_
  rw [List.getElem?_set] at hy hv
  split at hy
  · rename_i e
    rw [if_pos e] at hv
    split at hy
    · split at hv
      · cases hy; cases hv; exact hx
      · cases hv
    · cases hy
  · rename_i e
    rw [if_neg e] at hv
    exact h2 i y v hy hv
theorem RVL.setL : ∀ {xs : List V} {us : List Value} {l : List V} {cs : List Value} (n : Nat), RVL g l cs → RVL g xs us → RVL g (setL l n xs) (setR cs n us)
  | [], us, l, cs, n, h, hx => by simp only [RVL] at hx; subst hx; simpa only [Eng.setL, setR] using h
  | x :: xs, us, l, cs, n, h, hx => by
    simp only [RVL] at hx
    obtain ⟨u, r, rfl, h1, h2⟩ := hx
    simp only [Eng.setL, setR]
    exact RVL.setL (n + 1) (h.set n h1) h2
theorem Flat.set {l : List V} (h : Flat l) (n : Nat) {x : V} (hx : x.isAgg = false ∧ x.isTup = false) : Flat (l.set n x) := fun y hy => by
  rcases List.mem_or_eq_of_mem_set hy with h' | rfl
  · exact h y h'
  · exact hx
theorem Flat.setL : ∀ {xs l : List V} (n : Nat), Flat l → Flat xs → Flat (Eng.setL l n xs)
  | [], l, n, h, hx => h
  | x :: xs, l, n, h, hx => Flat.setL (xs := xs) (n + 1) (h.set n (hx x (List.mem_cons_self ..))) (fun y hy => hx y (List.mem_cons_of_mem _ hy))
theorem setR_length : ∀ (vs l : List Value) (n : Nat), (setR l n vs).length = l.length
  | [], l, n => rfl
  | x :: r, l, n => by simp only [setR]; rw [setR_length r]; simp
theorem fill_ok {place place' : Nat → Option (Nat × Nat)} (hpl : ∀ i q, place i = some q → place' i = some q) : ∀ {ps : List (Nat × V)} {qs : List (Nat × Value)} {l l' : List V} {cs : Array Value}, RVL g l cs.toList → Flat l →
    ps.map (·.1) = qs.map (·.1) → RVL g (ps.map (·.2)) (qs.map (·.2)) → (∀ q ∈ ps, q.2.isTup = false) → fillV place l ps = some l' → ∃ cs', Instr.fill place' cs qs = some cs' ∧ RVL g l' cs'.toList ∧ Flat l'
  | [], qs, l, l', cs, h, hf, hi, hv, ht, hh => by
    have : qs = [] := by simpa using hi.symm
    subst this
    simp only [fillV] at hh
    cases hh
    exact ⟨cs, rfl, h, hf⟩
  | (i, x) :: ps, qs, l, l', cs, h, hf, hi, hv, ht, hh => by
    match qs, hi with
    | (j, u) :: qs, hi =>
      simp only [List.map_cons, List.cons.injEq] at hi
      obtain ⟨rfl, hi⟩ := hi
      simp only [List.map_cons, RVL] at hv
      obtain ⟨u', r', e, hx, hv⟩ := hv
      cases e
      simp only [fillV] at hh
      split at hh
      · rename_i off s hp
        split at hh
        · rename_i hc
          obtain ⟨c1, c2⟩ := hc
          have htx : x.isTup = false := ht _ (List.mem_cons_self ..)
          obtain ⟨k1, k2⟩ := hx.cells htx
          have hl : u.cells.size = s := by rw [← c1, k1.get.1]; simp
          have hcl : l.length = cs.size := by rw [h.get.1]; simp
          obtain ⟨cs', e1, e2⟩ := fill_ok hpl (ps := ps) (qs := qs) (l := Eng.setL l off x.cells) (cs := u.cells.zipIdx.foldl (fun cs (c, j) => cs.setIfInBounds (off + j) c) cs) (l' := l') (by
            rw [← Array.foldl_toList, Array.toList_zipIdx, set_fold u.cells.toList 0 off cs]
            exact RVL.setL _ h k1) (Flat.setL _ hf k2) hi hv (fun q hq => ht q (List.mem_cons_of_mem _ hq)) hh
          refine ⟨cs', ?_, e2⟩
          simp only [Instr.fill, hpl _ _ hp]
          rw [if_neg]
          · exact e1
          · simp only [ne_eq, Bool.or_eq_true, decide_eq_true_eq]
            intro hbad
            rcases hbad with hbad | hbad
            · exact hbad hl
            · rw [hl] at hbad; omega
        · cases hh
      · cases hh
theorem rdParts_ok (hr : Reads g rd a.eval) : ∀ {xs : List (Nat × Operand)} {l : List (Nat × V)}, rdParts rd xs = some l → l.map (·.1) = xs.map (·.1) ∧ RVL g (l.map (·.2)) (xs.map fun x => a.eval x.2) ∧ ∀ q ∈ l, q.2.strip = q.2
  | [], l, h => by simp only [rdParts] at h; cases h; exact ⟨rfl, by simp only [List.map_nil, RVL], fun x hx => by cases hx⟩
  | (i, x) :: xs, l, h => by
    simp only [rdParts] at h
    split at h
    · rename_i v l' hv hl
      cases h
      obtain ⟨h1, h2, h3⟩ := rdParts_ok hr hl
      obtain ⟨k1, k2⟩ := hr _ _ hv
      refine ⟨by simp [h1], by simp only [List.map_cons, RVL]; exact ⟨_, _, rfl, k1, h2⟩, fun q hq => ?_⟩
      cases hq with
      | head => exact k2
      | tail _ hq => exact h3 q hq
    · cases h
theorem constV_ok {x : Value} {v : V} (h : constV x = some v) (p : Pl) : RV g p v x ∧ v.isAgg = false ∧ v.isTup = false := by
  unfold constV at h
  split at h <;> cases h
  · refine ⟨?_, rfl, rfl⟩
    simp only [RV, RC]
    exact ⟨⟨_, _, _, rfl, rfl, Nat.le_refl _, fun h => absurd rfl h⟩, fun a n c hu hn => by cases hu; omega⟩
  all_goals exact ⟨RVv rfl, rfl, rfl⟩
theorem consts_ok {xs : List Value} {l : List V} (h : xs.mapM constV = some l) : RVL g (l.map V.strip) xs ∧ Flat (l.map V.strip) ∧ (∀ (i : Nat) x u, l[i]? = some x → xs[i]? = some u → ∀ p, RV g p x u) := by
  obtain ⟨h1, h2⟩ := mapM_get h
  refine ⟨RVL.mk (by simp [h1]) fun i x u hx hu => ?_, fun x hx => ?_, fun i x u hx hu p => ?_⟩
  · rw [List.getElem?_map] at hx
    obtain ⟨y, hy, rfl⟩ := Option.map_eq_some_iff.1 hx
    obtain ⟨z, hz, e⟩ := h2 i y hy
    rw [hu] at hz; cases hz
    exact (constV_ok e .none).1.strip
  · simp only [List.mem_map] at hx
    obtain ⟨y, hy, rfl⟩ := hx
    obtain ⟨i, hi⟩ := List.getElem?_of_mem hy
    obtain ⟨z, hz, e⟩ := h2 i y hi
    have := (constV_ok (g := g) e .none).2
    cases y <;> simp_all [V.strip, V.isAgg, V.isTup, C.isAgg]
  · obtain ⟨z, hz, e⟩ := h2 i x hx
    rw [hu] at hz; cases hz
    exact (constV_ok e p).1
theorem consts_raw {xs : List Value} {l : List V} (h : xs.mapM constV = some l) : RVL g l xs ∧ Flat l := by
  obtain ⟨h1, h2⟩ := mapM_get h
  refine ⟨RVL.mk h1 fun i x u hx hu => ?_, fun x hx => ?_⟩
  · obtain ⟨z, hz, e⟩ := h2 i x hx
    rw [hu] at hz; cases hz
    exact (constV_ok e .none).1
  · obtain ⟨i, hi⟩ := List.getElem?_of_mem hx
    obtain ⟨z, hz, e⟩ := h2 i x hi
    exact (constV_ok (g := g) e .none).2
theorem yields_build {t : TypeId} {parts : Array (Nat × Operand)} {v : V} (hr : Reads g rd a.eval) (ho : o.op = .build t parts) (h : pureOp P rd o = some v) : Yields P g w a o v := by
  simp only [pureOp, ho] at h
  split at h
  · rename_i i ps hi hps
    split at h
    · rename_i fs hk
      split at h
      · rename_i htup
        obtain ⟨l', hl', rfl⟩ := Option.map_eq_some_iff.1 h
        obtain ⟨i1, u1, z1, a1, a2, a3, _, _, a6, a7, a8, _⟩ := tyOf_spec hi
        rw [hk] at a8
        obtain ⟨fds, rfl, hsz, hfs⟩ := kind_struct a8
        obtain ⟨q1, q2, q3⟩ := rdParts_ok hr hps
        obtain ⟨z2, z3⟩ := consts_raw (g := g) a7
        obtain ⟨pa, hpa⟩ : ∃ pa, pa = (fs.map fun f => (f.off, f.size)).toArray := ⟨_, rfl⟩
        have hplaces : (fds.mapM fun f => Prod.mk f.offset <$> sizeOf f.type : Sem (Array (Nat × Nat))).run P w = .ok pa w := by
          have : (fds.toList.mapM fun f => Prod.mk f.offset <$> sizeOf f.type : Sem (List (Nat × Nat))).run P w = .ok (fs.map fun f => (f.off, f.size)) w := by
            refine run_mapM (by simp [hsz]) fun j x y hx hy => ?_
            rw [List.getElem?_map] at hy
            obtain ⟨f, hf, rfl⟩ := Option.map_eq_some_iff.1 hy
            obtain ⟨fd, ti, ud, c1, c2, c3, c4, _⟩ := hfs j f hf
            have : x = fd := by
              have h' : fds.toList[j]? = some fd := by simpa using c1
              rw [hx] at h'; cases h'; rfl
            subst this
            simp [run_sizeOf' c3, c2, c4]
          rw [← Array.toArray_toList (xs := fds), List.mapM_toArray]
          simp [this, hpa]
        obtain ⟨cs', e1, e2, e3⟩ := fill_ok (g := g) (place' := (fun x => pa[x]?)) (fun i q hq => by rw [hpa]; simpa using hq) (cs := z1.cells) z2 z3 (qs := parts.toList.map fun x => (x.1, a.eval x.2)) (by simpa [Function.comp_def] using q1) (by simpa [List.map_map, Function.comp_def] using q2)
          (fun q hq => by simpa using List.all_eq_true.1 htup q hq) hl'
        refine ⟨.agg cs', ?_, fun p => RV.mkNagg e2 e3⟩
        simp [execOp, ho, Instr.build, zeroValue, typeInfo, a1, a6, run_underlying a2, hplaces, e1]
      · cases h
    · cases h
  · cases h
end Go.Eng
/- The boxes and the world: what stays. -/
set_option linter.unusedVariables false
set_option linter.unusedSimpArgs false
namespace Go.Eng
open Go.RowKit
theorem alloc_new (w : World) (o : Obj) : (w.alloc o).heap[w.heap.size]? = some o := by
  show (w.heap.push o)[w.heap.size]? = some o
  simp
theorem lk_upd (b : Box) (t t' : Nat) : ∀ f : Fr, lk (upd f t b) t' = if t' = t then some b else lk f t'
  | [] => by simp [upd, lk]
  | (k, x) :: r => by
    simp only [upd]
    by_cases h : t = k
    · subst h
      rw [if_pos rfl]
      simp only [lk]
      split <;> rfl
    · rw [if_neg h]
      simp only [lk]
      rw [lk_upd b t t' r]
      by_cases h' : t' = k
      · subst h'; rw [if_pos rfl, if_neg (fun e => h e.symm), if_pos rfl]
      · rw [if_neg h', if_neg h']
theorem put_length (d t : Nat) (b : Box) : ∀ m : Mem, (put m d t b).length = m.length
  | [] => rfl
  | f :: r => by
    simp only [put]
    split
    · rfl
    · simp [put_length d t b r]
theorem look_lt {d t : Nat} {b : Box} : ∀ {m : Mem}, look m d t = some b → d < m.length
  | [], h => by simp [look] at h
  | f :: r, h => by
    simp only [look] at h
    split at h
    · rename_i e; subst e; simp
    · have := look_lt h; simp; omega
theorem look_put (d t : Nat) (b : Box) (d' t' : Nat) : ∀ m : Mem, d < m.length → look (put m d t b) d' t' = if d' = d ∧ t' = t then some b else look m d' t'
  | [], h => by simp at h
  | f :: r, h => by
    simp only [put]
    by_cases hd : d = r.length
    · rw [if_pos hd]
      simp only [look]
      by_cases hd' : d' = r.length
      · rw [if_pos hd', if_pos hd', lk_upd]
        by_cases ht : t' = t
        · rw [if_pos ht, if_pos ⟨hd'.trans hd.symm, ht⟩]
        · rw [if_neg ht, if_neg (fun q => ht q.2)]
      · rw [if_neg hd', if_neg hd', if_neg (fun (q : d' = d ∧ t' = t) => hd' (q.1.trans hd))]
    · rw [if_neg hd]
      simp only [look, put_length]
      have hlt : d < r.length := by simp at h; omega
      by_cases hd' : d' = r.length
      · rw [if_pos hd', if_pos hd', if_neg (fun (q : d' = d ∧ t' = t) => hd (q.1.symm.trans hd'))]
      · rw [if_neg hd', if_neg hd', look_put d t b d' t' r hlt]
theorem look_head (f : Fr) (r : Mem) (t : Nat) : look (f :: r) r.length t = lk f t := by simp [look]
theorem look_tail (f : Fr) (r : Mem) (d t : Nat) (h : d < r.length) : look (f :: r) d t = look r d t := by
  simp only [look]; rw [if_neg (by omega)]
variable {P : Program} {A : Ann} {w0 : World} {pend : Nat → Nat → Option Box} {g : G} {m : Mem} {w : World}
theorem TR.ext {g' : G} {S : Pl → Prop} (he : Ext g g' S) (h0 : ¬ S .none) {k : Nat} {tm : List V} {vals : Array Value} (h : TR g k tm vals) (hs : ∀ t, ¬ S (.tmp k t)) : TR g' k tm vals :=
  ⟨h.size, fun t x u hx hu => (h.rel t x u hx hu).ext he h0 (hs t), h.up⟩
theorem GHR.ext {g' : G} {S : Pl → Prop} (he : Ext g g' S) (h0 : ¬ S .none) {n : Nat} {gh : Gh} (h : GHR g n gh) (hs : ∀ k t, k < n → ¬ S (.tmp k t)) : GHR g' n gh :=
  fun k hk => (h k hk).ext he h0 (fun t => hs k t hk)
/-- a world that differs in what was drawn alone -/
theorem Inv.same (h : Inv A w0 pend g m w) {w' : World} (hh : w'.heap = w.heap) (ho : w'.os = w.os) (ht : w'.tape = w.tape) (hout : w'.output = w.output) : Inv A w0 pend g m w' := by
  have hc : ∀ a, w'.cell? a = w.cell? a := fun a => by unfold World.cell?; rw [hh]
  refine ⟨h.laid, ⟨ho.trans h.below.os, ht.trans h.below.tape, hout.trans h.below.output, by rw [hh]; exact h.below.size, fun k hk => by rw [hh]; exact h.below.block k hk⟩, h.glob, fun b i v hv => by rw [hc]; exact h.F b i v hv, fun b es hb => by rw [hh]; exact h.M b es hb, ?_, h.inj, ?_, h.up, h.pend⟩
  · rw [hh]; exact h.φ
  · rw [hh]; exact h.o
theorem Inv.F_lt (h : Inv A w0 pend g m w) {b i : Nat} {v : Value} (hv : g.F b i = some v) : b < w.heap.size := World.block_lt_of_cell? w _ (h.F b i v hv)
theorem Inv.M_lt (h : Inv A w0 pend g m w) {b : Nat} {es : Array MapEntry} (hb : g.F.m b = some es) : b < w.heap.size := by
  obtain ⟨c, hc⟩ := h.M b es hb
  exact (Array.getElem?_eq_some_iff.1 hc).1
theorem Inv.φ_lt (h : Inv A w0 pend g m w) {d t b : Nat} (hb : g.φ d t = some b) : b < w.heap.size := by
  obtain ⟨_, _, _, l, cs, e, _, hh, _⟩ := h.φ d t b hb
  exact (Array.getElem?_eq_some_iff.1 hh).1
theorem Inv.o_lt (h : Inv A w0 pend g m w) {b : Nat} {q : Own} (hb : g.o b = some q) : b < w.heap.size := by
  obtain ⟨_, cs, e, hh, _⟩ := h.o b q hb
  exact (Array.getElem?_eq_some_iff.1 hh).1
theorem Inv.M_alloc (h : Inv A w0 pend g m w) {b : Nat} {es : Array MapEntry} (hb : g.F.m b = some es) (o : Obj) : ∃ clock, (w.alloc o).heap[b]? = some (.map es clock) := by
  obtain ⟨c, hc⟩ := h.M b es hb
  exact ⟨c, (Below.heap_alloc w _ b (h.M_lt hb)).trans hc⟩
/-- a new block whose cells stay -/
def G.fz (g : G) (b : Nat) (cs : List Value) : G := { g with F := { g.F with c := fun b' i => if b' = b then cs[i]? else g.F b' i } }
theorem Inv.allocF (h : Inv A w0 pend g m w) (cs : Array Value) (e : TypeId) : Inv A w0 pend (g.fz w.heap.size cs.toList) m (w.alloc (.cells cs e)) ∧ ∀ S, Ext g (g.fz w.heap.size cs.toList) S := by
  have hext : ∀ S, Ext g (g.fz w.heap.size cs.toList) S := fun S => ⟨⟨fun b i v hv => by
    have := h.F_lt hv
    show (if b = w.heap.size then _ else _) = _
    rw [if_neg (by omega)]; exact hv, fun _ _ h => h⟩, fun _ _ _ x => x, fun _ _ x _ => x⟩
  refine ⟨⟨h.laid, h.below.alloc h.below.size _, fun v l hl => ?_, fun b i v hv => ?_, fun b es hb => h.M_alloc hb _, fun d t b hb => ?_, h.inj, fun b q hq => ?_, h.up, h.pend⟩, hext⟩
  · obtain ⟨vs, k1, k2⟩ := h.glob v l hl
    exact ⟨vs, At.mono (hext fun _ => False).F k1, RL.mono (hext fun _ => False).F k2⟩
  · have hv' : (if b = w.heap.size then cs.toList[i]? else g.F b i) = some v := hv
    by_cases hb : b = w.heap.size
    · rw [if_pos hb] at hv'
      subst hb
      unfold World.cell?
      rw [alloc_new]
      simpa using hv'
    · rw [if_neg hb] at hv'
      have := h.F b i v hv'
      exact (World.cell?_of_block (w := w) (Below.heap_alloc w _ b (h.F_lt hv'))).trans this
  · have hlt := h.φ_lt hb
    obtain ⟨c1, c2, c3, l, cs', e', k1, k2, k3, k5, k4⟩ := h.φ d t b hb
    refine ⟨c1, fun i => ?_, c3, l, cs', e', k1, (Below.heap_alloc w _ b hlt).trans k2, k3, k5, fun i x u hx hu => (k4 i x u hx hu).ext (hext fun _ => False) id id⟩
    show (if b = w.heap.size then _ else _) = _
    rw [if_neg (by omega)]; exact c2 i
  · have hlt := h.o_lt hq
    obtain ⟨c1, cs', e', k1, k2, k3⟩ := h.o b q hq
    refine ⟨c1, cs', e', (Below.heap_alloc w _ b hlt).trans k1, k2, fun i hi => ?_⟩
    show (if b = w.heap.size then _ else _) = _
    rw [if_neg (by omega)]; exact k3 i hi
/-- a new block that is a box -/
def G.box (g : G) (d t b : Nat) : G := { g with φ := fun d' t' => if d' = d ∧ t' = t then some b else g.φ d' t' }
theorem Inv.allocB (h : Inv A w0 pend g m w) {m' : Mem} {pend' : Nat → Nat → Option Box} {d t : Nat} {l : List V} {cs : Array Value} (e : TypeId) (hn : g.φ d t = none)
    (hm : ∀ d' t', look m' d' t' = if d' = d ∧ t' = t then some l else look m d' t') (hl : l.length = cs.size) (hfl : ∀ x ∈ l, x.isAgg = false ∧ x.isTup = false)
    (hrel : ∀ (i : Nat) x u, l[i]? = some x → cs[i]? = some u → ∀ p, RV g p x u) (hup : upToL (d + 1) l = true)
    (hp : ∀ d' t' b, pend' d' t' = some b → pend d' t' = some b ∧ ¬ (d' = d ∧ t' = t)) :
    Inv A w0 pend' (g.box d t w.heap.size) m' (w.alloc (.cells cs e)) ∧ ∀ S, Ext g (g.box d t w.heap.size) S := by
  have hext : ∀ S, Ext g (g.box d t w.heap.size) S := fun S => ⟨Fz.le.refl _, fun d' t' b hb => by
    show (if d' = d ∧ t' = t then _ else _) = _
    rw [if_neg (fun q => by rw [q.1, q.2, hn] at hb; cases hb)]; exact hb, fun _ _ x _ => x⟩
  have hφ : ∀ d' t' b, (g.box d t w.heap.size).φ d' t' = some b → (d' = d ∧ t' = t ∧ b = w.heap.size) ∨ (¬ (d' = d ∧ t' = t) ∧ g.φ d' t' = some b) := fun d' t' b hb => by
    have hb' : (if d' = d ∧ t' = t then some w.heap.size else g.φ d' t') = some b := hb
    by_cases hq : d' = d ∧ t' = t
    · rw [if_pos hq] at hb'; cases hb'; exact .inl ⟨hq.1, hq.2, rfl⟩
    · rw [if_neg hq] at hb'; exact .inr ⟨hq, hb'⟩
  refine ⟨⟨h.laid, h.below.alloc h.below.size _, h.glob, fun b i v hv => ?_, fun b es hb => h.M_alloc hb _, fun d' t' b hb => ?_, fun d1 t1 d2 t2 b h1 h2 => ?_, fun b q hq => ?_, fun d' t' l' hl' => ?_, fun d' t' l' hl' => ?_⟩, hext⟩
  · exact (World.cell?_of_block (w := w) (Below.heap_alloc w _ b (h.F_lt hv))).trans (h.F b i v hv)
  · rcases hφ d' t' b hb with ⟨rfl, rfl, rfl⟩ | ⟨hq, hb'⟩
    · refine ⟨h.below.size, fun i => ?_, ?_, l, cs, e, by rw [hm, if_pos ⟨rfl, rfl⟩], alloc_new w _, hl, hfl, fun i x u hx hu => (hrel i x u hx hu _).ext (hext fun _ => False) id id⟩
      · show g.F _ _ = none
        cases hv : g.F w.heap.size i with
        | none => rfl
        | some v => have := h.F_lt hv; omega
      · show g.o _ = none
        cases hv : g.o w.heap.size with
        | none => rfl
        | some v => have := h.o_lt hv; omega
    · have hlt := h.φ_lt hb'
      obtain ⟨c1, c2, c3, l', cs', e', k1, k2, k3, k5, k4⟩ := h.φ d' t' b hb'
      exact ⟨c1, c2, c3, l', cs', e', by rw [hm, if_neg hq]; exact k1, (Below.heap_alloc w _ b hlt).trans k2, k3, k5, fun i x u hx hu => (k4 i x u hx hu).ext (hext fun _ => False) id id⟩
  · rcases hφ _ _ _ h1 with ⟨rfl, rfl, rfl⟩ | ⟨hq, hb⟩ <;> rcases hφ _ _ _ h2 with ⟨e1, e2, e3⟩ | ⟨hq', hb'⟩
    · exact ⟨e1.symm, e2.symm⟩
    · have := h.φ_lt hb'; omega
    · have := h.φ_lt hb; omega
    · exact h.inj _ _ _ _ _ hb hb'
  · have hlt := h.o_lt hq
    obtain ⟨c1, cs', e', k1, k2, k3⟩ := h.o b q hq
    exact ⟨c1, cs', e', (Below.heap_alloc w _ b hlt).trans k1, k2, k3⟩
  · rw [hm] at hl'
    split at hl'
    · rename_i q; cases hl'; rw [q.1]; exact hup
    · exact h.up _ _ _ hl'
  · obtain ⟨k1, k2⟩ := hp _ _ _ hl'
    obtain ⟨k3, k4⟩ := h.pend _ _ _ k1
    refine ⟨?_, by rw [hm, if_neg k2]; exact k4⟩
    show (if d' = d ∧ t' = t then _ else _) = _
    rw [if_neg k2]; exact k3
/-- the right to append goes from one place to another -/
def G.mv (g : G) (b : Nat) (q : Pl) : G := { g with o := fun b' => if b' = b then (g.o b).map fun x => { x with pl := q } else g.o b' }
theorem mv_ext {b : Nat} {p q : Pl} {f n : Nat} (h : g.o b = some ⟨p, f, n⟩) : Ext g (g.mv b q) (· = p) :=
  ⟨Fz.le.refl _, fun _ _ _ x => x, fun b' r hr hne => by
    show (if b' = b then _ else _) = _
    rw [if_neg (fun e => by subst e; rw [h] at hr; cases hr; exact hne rfl)]
    exact hr⟩
end Go.Eng
/- Operations that leave the boxes alone, or lay new ones. -/
set_option linter.unusedVariables false
set_option linter.unusedSimpArgs false
namespace Go.Eng
open Go.RowKit
variable {P : Program} {A : Ann} {w0 : World} {pend : Nat → Nat → Option Box} {g : G} {m : Mem} {w : World} {gh : Gh} {D : Nat} {tm : List V} {a : Act} {o : Oper}
theorem constA_ok {x : Value} {v : V} (h : constA x = some v) (p : Pl) : RV g p v x := by
  unfold constA at h
  split at h
  · rename_i cs
    obtain ⟨l, hl, rfl⟩ := Option.map_eq_some_iff.1 h
    obtain ⟨h1, h2, _⟩ := consts_ok (g := g) hl
    exact RV.mkAgg h1 h2
  · exact (constV_ok h p).1
def plOf (D : Nat) : Operand → Pl | .tmp t => .tmp D t | _ => .none
def plD (D : Nat) : Option Tmp → Pl | some d => .tmp D d | none => .res
theorem rawT_get {t : Nat} {x : V} (h : rawT tm t = x) (hx : x ≠ .undef) : tm[t]? = some x := by
  unfold rawT at h
  rw [List.getD_eq_getElem?_getD] at h
  cases ht : tm[t]? with
  | none => rw [ht] at h; exact absurd h.symm hx
  | some y => rw [ht] at h; simp at h; rw [h]
theorem TR.val (h : TR g D tm a.tmps) {t : Nat} {x : V} (hx : tm[t]? = some x) : ∃ u, a.tmps[t]? = some u ∧ a.eval (.tmp t) = u ∧ RV g (.tmp D t) x u := by
  have hlt : t < a.tmps.size := by rw [← h.size]; exact (List.getElem?_eq_some_iff.1 hx).1
  refine ⟨a.tmps[t], Array.getElem?_eq_getElem hlt, ?_, h.rel t x _ hx (Array.getElem?_eq_getElem hlt)⟩
  simp [Act.eval, Array.getD_eq_getD_getElem?, Array.getElem?_eq_getElem hlt]
theorem raw_ok (hi : GlobOK A g) (ht : TR g D tm a.tmps) {x : Operand} {v : V} (h : raw A tm x = some v) : RV g (plOf D x) v (a.eval x) := by
  cases x with
  | tmp t =>
    have h2 : rawT tm t = v ∧ v ≠ .undef := by
      simp only [raw] at h
      cases hr : rawT tm t <;> rw [hr] at h <;> simp at h <;> subst h <;> simp
    obtain ⟨u, h3, h4, h5⟩ := ht.val (rawT_get h2.1 h2.2)
    rw [h4]; exact h5
  | const c => simp only [raw] at h; exact constA_ok h _
  | global v' =>
    simp only [raw] at h
    obtain ⟨l, hl, rfl⟩ := Option.map_eq_some_iff.1 h
    obtain ⟨vs, k1, k2⟩ := hi _ _ hl
    refine RVc ?_ rfl
    simp only [RC, Act.eval]
    exact ⟨v', 0, vs, rfl, k1, k2⟩
  | func f =>
    simp only [raw] at h
    cases h
    refine RVc ?_ rfl
    simp only [RC, Act.eval]
    exact ⟨#[], rfl, by simp only [RA]⟩
theorem reads_ok (hi : GlobOK A g) (ht : TR g D tm a.tmps) : Reads g (rdOf A tm) a.eval := fun x v h => by
  obtain ⟨y, hy, rfl⟩ := Option.map_eq_some_iff.1 h
  exact ⟨(raw_ok hi ht hy).strip, strip_strip y⟩
theorem upTo_strip {x : V} {n : Nat} (h : x.upTo n = true) : x.strip.upTo n = true := by
  cases x <;> simp_all [V.strip, V.upTo]
theorem upToL_mem {l : List V} {n : Nat} : upToL n l = true ↔ ∀ x ∈ l, x.upTo n = true := by
  induction l with
  | nil => simp [upToL]
  | cons x l ih => simp [upToL, ih]
theorem upToL_set {l : List V} {n t : Nat} {x : V} (h : upToL n l = true) (hx : x.upTo n = true) : upToL n (l.set t x) = true := by
  rw [upToL_mem] at h ⊢
  intro y hy
  rcases List.mem_or_eq_of_mem_set hy with h' | rfl
  · exact h y h'
  · exact hx
theorem rawT_upTo {n t : Nat} (h : upToL n tm = true) : (rawT tm t).upTo n = true := by
  unfold rawT
  rw [List.getD_eq_getElem?_getD]
  cases ht : tm[t]? with
  | none => rfl
  | some y => exact (upToL_mem.1 h) y (List.mem_of_getElem? ht)
/-- a temporary that is read without its right -/
theorem TR.strip1 {g' : G} {vals : Array Value} {t : Nat} (he : Ext g g' (· = .tmp D t)) (h : TR g D tm vals) : TR g' D (tm.set t (rawT tm t).strip) vals := by
  refine ⟨by simpa using h.size, fun s x u hx hu => ?_, upToL_set h.up (upTo_strip (rawT_upTo h.up))⟩
  rw [List.getElem?_set] at hx
  split at hx
  · rename_i e
    subst e
    split at hx
    · rename_i hlt
      cases hx
      have hy : tm[t]? = some tm[t] := List.getElem?_eq_getElem hlt
      have hr : rawT tm t = tm[t] := by unfold rawT; rw [List.getD_eq_getElem?_getD, hy]; rfl
      rw [hr]
      have := (h.rel t _ u hy hu).strip (q := .none)
      have h2 := this.ext he (by simp) (by simp)
      rw [← strip_strip]; exact h2.strip
    · cases hx
  · rename_i hne
    exact (h.rel s x u hx hu).ext he (by simp) (by intro e; cases e; exact hne rfl)
theorem mv_inv (h : Inv A w0 pend g m w) {b : Nat} {p q : Pl} {f n : Nat} (hb : g.o b = some ⟨p, f, n⟩) (hp : ∀ d t i, p ≠ .cell d t i) (hp0 : p ≠ .none) : Inv A w0 pend (g.mv b q) m w := by
  have he := mv_ext (q := q) hb
  refine ⟨h.laid, h.below, fun v l hl => h.glob v l hl, h.F, h.M, fun d t c hc => ?_, h.inj, fun c r hr => ?_, h.up, h.pend⟩
  · obtain ⟨c1, c2, c3, l, cs, e, k1, k2, k3, k5, k4⟩ := h.φ d t c hc
    refine ⟨c1, c2, ?_, l, cs, e, k1, k2, k3, k5, fun i x u hx hu => (k4 i x u hx hu).ext he (fun e => hp0 e.symm) (fun e => hp _ _ _ e.symm)⟩
    show (if c = b then _ else _) = _
    rw [if_neg (fun e => by subst e; rw [hb] at c3; cases c3)]
    exact c3
  · have hr' : (if c = b then (g.o b).map fun x => { x with pl := q } else g.o c) = some r := hr
    by_cases hc : c = b
    · rw [if_pos hc, hb] at hr'
      cases hr'
      subst hc
      obtain ⟨c1, cs, e, k1, k2, k3⟩ := h.o c _ hb
      exact ⟨c1, cs, e, k1, k2, k3⟩
    · rw [if_neg hc] at hr'
      exact h.o c r hr'
/-- a value goes from its place to another, its right to append with it -/
theorem tip_move (h : Inv A w0 pend g m w) {p q : Pl} {v : V} {u : Value} (hv : RV g p v u) (hp : ∀ d t i, p ≠ .cell d t i) (hp0 : p ≠ .none) : ∃ g', Ext g g' (· = p) ∧ Inv A w0 pend g' m w ∧ RV g' q v u := by
  match v, hv with
  | .tip s l, hv =>
    have hv' := hv
    simp only [RV] at hv
    obtain ⟨h1, h2⟩ := hv
    have h1' := h1
    simp only [RC] at h1
    obtain ⟨ad, n, c, hu, _⟩ := h1
    have hu : u = .slice ad n c := by simpa using hu
    by_cases hn : n < c
    · obtain ⟨b, s', e1, e2, e3⟩ := h2 ad n c hu hn
      refine ⟨g.mv b q, mv_ext e3, mv_inv h e3 hp hp0, ?_⟩
      simp only [RV]
      refine ⟨RC.mono (mv_ext (q := q) e3).F h1', fun ad' n' c' hu' hn' => ?_⟩
      rw [hu] at hu'
      cases hu'
      exact ⟨b, s', e1, e2, by show (if b = b then _ else _) = _; rw [if_pos rfl, e3]; rfl⟩
    · refine ⟨g, Ext.refl g _, h, ?_⟩
      simp only [RV]
      refine ⟨h1', fun ad' n' c' hu' hn' => ?_⟩
      rw [hu] at hu'
      cases hu'
      exact absurd hn' hn
  | .c x, hv => exact ⟨g, Ext.refl g _, h, hv.any rfl q⟩
  | .p d t off, hv => exact ⟨g, Ext.refl g _, h, hv.any rfl q⟩
  | .agg l, hv => exact ⟨g, Ext.refl g _, h, hv.any rfl q⟩
  | .nagg l, hv => exact ⟨g, Ext.refl g _, h, by simpa only [RV] using hv⟩
  | .tup l, hv => exact ⟨g, Ext.refl g _, h, hv.any rfl q⟩
  | .fn f l, hv => exact ⟨g, Ext.refl g _, h, hv.any rfl q⟩
  | .undef, hv => exact ⟨g, Ext.refl g _, h, trivial⟩
structure Ctx (A : Ann) (w0 : World) (pend : Nat → Nat → Option Box) (gh : Gh) (D : Nat) (g : G) (m : Mem) (tm : List V) (vals : Array Value) (w : World) : Prop where
  inv : Inv A w0 pend g m w
  gh : GHR g D gh
  tr : TR g D tm vals
  len : m.length = D + 1
theorem Ctx.ext {g' : G} {S : Pl → Prop} {vals : Array Value} {w' : World} (h : Ctx A w0 pend gh D g m tm vals w) (hi : Inv A w0 pend g' m w') (he : Ext g g' S) (h0 : ¬ S .none) (hs : ∀ k t, ¬ S (.tmp k t)) : Ctx A w0 pend gh D g' m tm vals w' :=
  ⟨hi, h.gh.ext he h0 (fun k t _ => hs k t), h.tr.ext he h0 (fun t => hs D t), h.len⟩
/-- an operand is read, its right to append taken -/
theorem take_ok (h : Ctx A w0 pend gh D g m tm a.tmps w) {x : Operand} {v : V} (hx : raw A tm x = some v) (q : Pl) : ∃ g', Ctx A w0 pend gh D g' m (stripT tm (opTmps [x])) a.tmps w ∧ RV g' q v (a.eval x) ∧ v.upTo (D + 1) = true ∧ Ext g g' (fun p => ∃ t, x = .tmp t ∧ p = .tmp D t) := by
  have hv := raw_ok h.inv.glob h.tr hx
  cases x with
  | tmp t =>
    obtain ⟨g', he, hi, hr⟩ := tip_move h.inv (q := q) hv (fun _ _ _ => by simp [plOf]) (by simp [plOf])
    refine ⟨g', ⟨hi, h.gh.ext he (by simp [plOf]) (fun k t' hk => by simp [plOf]; omega), ?_, h.len⟩, hr, ?_⟩
    · simp only [opTmps, stripT]; exact TR.strip1 he h.tr
    · have : rawT tm t = v := by
        simp only [raw] at hx
        cases hr : rawT tm t <;> rw [hr] at hx <;> simp at hx <;> exact hx
      rw [← this]; exact ⟨rawT_upTo h.tr.up, ⟨he.F, he.φ, fun b q hq hne => he.o b q hq fun e => hne ⟨t, rfl, e⟩⟩⟩
  | const c => exact ⟨g, ⟨h.inv, h.gh, by simpa only [opTmps, stripT] using h.tr, h.len⟩, constA_ok (x := c) (by simpa only [raw] using hx) q, by
      refine ⟨?_, Ext.refl g _⟩
      simp only [raw] at hx
      unfold constA at hx
      split at hx
      · obtain ⟨l, hl, rfl⟩ := Option.map_eq_some_iff.1 hx
        unfold mkAgg
        split
        · rfl
        · simp only [V.upTo]
          rw [upToL_mem]
          intro y hy
          simp only [List.mem_map] at hy
          obtain ⟨z, hz, rfl⟩ := hy
          obtain ⟨i, hi⟩ := List.getElem?_of_mem hz
          obtain ⟨_, _, e⟩ := (mapM_get hl).2 i z hi
          unfold constV at e
          split at e <;> cases e <;> rfl
      · rename_i hh
        unfold constV at hx
        split at hx <;> cases hx <;> rfl⟩
  | global v' =>
    have hs : v.strip = v ∧ v.upTo (D + 1) = true := by
      simp only [raw] at hx; obtain ⟨l, hl, rfl⟩ := Option.map_eq_some_iff.1 hx; exact ⟨rfl, rfl⟩
    exact ⟨g, ⟨h.inv, h.gh, by simpa only [opTmps, stripT] using h.tr, h.len⟩, hv.any hs.1 q, hs.2, Ext.refl g _⟩
  | func f =>
    have hs : v.strip = v ∧ v.upTo (D + 1) = true := by simp only [raw] at hx; cases hx; exact ⟨rfl, rfl⟩
    exact ⟨g, ⟨h.inv, h.gh, by simpa only [opTmps, stripT] using h.tr, h.len⟩, hv.any hs.1 q, hs.2, Ext.refl g _⟩
/-- what an operation that is no call of a function leaves -/
def Res (P : Program) (A : Ann) (w0 : World) (pend : Nat → Nat → Option Box) (gh : Gh) (D : Nat) (tm' : List V) (m' : Mem) (a : Act) (o : Oper) (v : V) (w : World) : Prop :=
  ∃ u g' w', ((execOp a.eval o).run P w = .ok (.value u) w' ∨ ((execOp a.eval o).run P w = .ok .skip w' ∧ u = undef)) ∧ Ctx A w0 pend gh D g' m' tm' a.tmps w' ∧ RV g' (plD D o.dst) v u ∧ v.upTo (D + 1) = true
theorem res_take (h : Ctx A w0 pend gh D g m tm a.tmps w) {x : Operand} {v : V} (ho : o.op = .assign x ∨ o.op = .move x) (hx : raw A tm x = some v) : Res P A w0 pend gh D (stripT tm (opTmps [x])) m a o v w := by
  obtain ⟨g', h1, h2, h3, _⟩ := take_ok h hx (plD D o.dst)
  exact ⟨_, g', w, .inl (by rcases ho with ho | ho <;> simp [execOp, ho]), h1, h2, h3⟩
theorem upTo_cells {x : V} {n : Nat} (h : x.upTo n = true) : upToL n x.cells = true := by
  cases x with
  | c x => rw [upToL_mem]; intro y hy; simp only [V.cells, List.mem_map] at hy; obtain ⟨z, _, rfl⟩ := hy; rfl
  | agg l => show upToL n l = true; simpa only [V.upTo] using h
  | nagg l =>
    simp only [V.upTo] at h
    show upToL n (l.map V.full1) = true
    rw [upToL_mem] at h ⊢
    intro y hy
    simp only [List.mem_map] at hy
    obtain ⟨z, hz, rfl⟩ := hy
    have := h z hz
    cases z <;> simp_all [V.full1, V.upTo]
  | tip s l => rfl
  | p d t off => simp only [V.cells, V.strip, upToL, h]; rfl
  | tup l => simp only [V.cells, V.strip, upToL, h]; rfl
  | fn f l => simp only [V.cells, V.strip, upToL, h]; rfl
  | undef => rfl
theorem mkAgg_up {l : List V} {n : Nat} (h : upToL n l = true) : (mkAgg l).upTo n = true := by
  unfold mkAgg; split
  · rfl
  · simpa only [V.upTo] using h
theorem mkNagg_up {l : List V} {n : Nat} (h : upToL n l = true) : (mkNagg l).upTo n = true := by
  unfold mkNagg; split
  · rfl
  · split
    · simpa only [V.upTo] using h
    · simp only [V.upTo]
      rw [upToL_mem] at h ⊢
      intro y hy
      simp only [List.mem_map] at hy
      obtain ⟨z, hz, rfl⟩ := hy
      have := h z hz
      cases z <;> simp_all [V.full1, V.upTo]
theorem upToL_sub {l l' : List V} {n : Nat} (h : upToL n l = true) (hs : ∀ x ∈ l', x ∈ l) : upToL n l' = true := by
  rw [upToL_mem] at h ⊢; exact fun x hx => h x (hs x hx)
theorem ofCells_up {agg : Bool} {l : List V} {v : V} {n : Nat} (h : upToL n l = true) (hv : ofCells agg l = some v) : v.upTo n = true := by
  unfold ofCells at hv
  split at hv
  · cases hv; exact mkAgg_up h
  · match l, hv with
    | [x], hv => cases hv; exact upTo_strip ((upToL_mem.1 h) x (List.mem_cons_self ..))
theorem setL_up {n : Nat} : ∀ {xs l : List V} (o : Nat), upToL n l = true → upToL n xs = true → upToL n (setL l o xs) = true
  | [], l, o, h, _ => h
  | x :: xs, l, o, h, hx => by
    simp only [upToL, Bool.and_eq_true] at hx
    exact setL_up (xs := xs) (o + 1) (upToL_set h hx.1) hx.2
theorem fillV_up {place : Nat → Option (Nat × Nat)} {n : Nat} : ∀ {ps : List (Nat × V)} {l l' : List V}, upToL n l = true → (∀ q ∈ ps, q.2.upTo n = true) → fillV place l ps = some l' → upToL n l' = true
  | [], l, l', h, _, hf => by simp only [fillV] at hf; cases hf; exact h
  | (i, x) :: ps, l, l', h, hp, hf => by
    simp only [fillV] at hf
    split at hf
    · split at hf
      · exact fillV_up (ps := ps) (setL_up _ h (upTo_cells (hp (i, x) (List.mem_cons_self ..)))) (fun q hq => hp q (List.mem_cons_of_mem _ hq)) hf
      · cases hf
    · cases hf
theorem rdAll_up {rd : Operand → Option V} {n : Nat} (hr : ∀ x v, rd x = some v → v.upTo n = true) : ∀ {xs : List Operand} {l : List V}, rdAll rd xs = some l → upToL n l = true
  | [], l, h => by simp only [rdAll] at h; cases h; rfl
  | x :: xs, l, h => by
    simp only [rdAll] at h
    split at h
    · rename_i v l' hv hl; cases h; simp only [upToL, hr _ _ hv, rdAll_up hr hl]; rfl
    · cases h
theorem rdParts_up {rd : Operand → Option V} {n : Nat} (hr : ∀ x v, rd x = some v → v.upTo n = true) : ∀ {xs : List (Nat × Operand)} {l : List (Nat × V)}, rdParts rd xs = some l → ∀ q ∈ l, q.2.upTo n = true
  | [], l, h => by simp only [rdParts] at h; cases h; intro q hq; cases hq
  | (i, x) :: xs, l, h => by
    simp only [rdParts] at h
    split at h
    · rename_i v l' hv hl
      cases h
      intro q hq
      cases hq with
      | head => exact hr _ _ hv
      | tail _ hq => exact rdParts_up hr hl q hq
    · cases h
theorem sliceV_up {rd : Operand → Option V} {x v : V} {lo hi mx : Option Operand} {n : Nat} (h : sliceV rd x lo hi mx = some v) : v.upTo n = true := by
  unfold sliceV at h
  repeat' split at h
  all_goals first | (cases h; rfl) | (cases h; done)
theorem zero_up {t : TypeId} {i : TyI} (h : tyOf P t = some i) (n : Nat) : upToL n i.zero = true ∧ upToL n (i.zero.map V.strip) = true := by
  obtain ⟨_, _, z, _, _, _, _, _, _, h7, _⟩ := tyOf_spec h
  have : ∀ x ∈ i.zero, x.upTo n = true := fun x hx => by
    obtain ⟨j, hj⟩ := List.getElem?_of_mem hx
    obtain ⟨_, _, e⟩ := (mapM_get h7).2 j x hj
    unfold constV at e
    split at e <;> cases e <;> rfl
  refine ⟨upToL_mem.2 this, upToL_mem.2 fun x hx => ?_⟩
  simp only [List.mem_map] at hx
  obtain ⟨y, hy, rfl⟩ := hx
  exact upTo_strip (this y hy)
theorem pureOp_up {rd : Operand → Option V} {n : Nat} (hr : ∀ x v, rd x = some v → v.upTo n = true) {v : V} (h : pureOp P rd o = some v) : v.upTo n = true := by
  unfold pureOp at h
  split at h
  · exact hr _ _ h
  · exact hr _ _ h
  · split at h
    · split at h <;> exact hr _ _ h
    · cases h
  · split at h
    · rename_i i ps hi hps
      split at h
      · split at h
        · obtain ⟨l', hl', rfl⟩ := Option.map_eq_some_iff.1 h
          exact mkNagg_up (fillV_up (zero_up hi n).1 (rdParts_up hr hps) hl')
        · cases h
      · cases h
    · cases h
  · split at h
    · split at h <;> first | (cases h; rfl) | (cases h; done)
    · obtain ⟨r, _, rfl⟩ := Option.map_eq_some_iff.1 h; rfl
    · cases h
  · split at h
    · obtain ⟨r, _, rfl⟩ := Option.map_eq_some_iff.1 h; rfl
    · cases h
  · repeat' split at h
    all_goals first | (cases h; rfl) | (cases h; done) | (obtain ⟨r, _, rfl⟩ := Option.map_eq_some_iff.1 h; rfl)
  · split at h
    · obtain ⟨l, hl, rfl⟩ := Option.map_eq_some_iff.1 h
      split
      · rfl
      · simpa only [V.upTo] using rdAll_up hr hl
    · cases h
  · repeat' split at h
    all_goals first | exact sliceV_up h | (cases h; done)
  · repeat' split at h
    all_goals first | (cases h; rfl) | (cases h; done) | skip
    cases h
    rename_i hx _ _ _ _ _ _ _ _ _
    have := hr _ _ ‹_›
    simpa only [V.upTo] using this
  · split at h
    · rename_i y i hx hi
      repeat' split at h
      all_goals first | (cases h; done) | exact ofCells_up (upToL_sub (upTo_cells (hr _ _ hx)) fun x hx => List.mem_of_mem_drop (List.mem_of_mem_take hx)) h
    · cases h
  · repeat' split at h
    all_goals first | (cases h; rfl) | (cases h; done) | skip
    cases h
    have := hr _ _ ‹_›
    simpa only [V.upTo] using this
  · repeat' split at h
    all_goals first | (cases h; done) | (obtain ⟨r, _, rfl⟩ := Option.map_eq_some_iff.1 h; rfl)
  · split at h
    · rename_i l hx
      obtain ⟨y, hy, rfl⟩ := Option.map_eq_some_iff.1 h
      have := hr _ _ hx
      simp only [V.upTo] at this
      exact upTo_strip ((upToL_mem.1 this) y (List.mem_of_getElem? hy))
    · cases h
  · repeat' split at h
    all_goals first | (cases h; done) | (cases h; exact hr _ _ ‹_›)
  · repeat' split at h
    all_goals first | (cases h; done) | exact ofCells_up (upToL_mem.2 fun x hx => by simp only [List.mem_map] at hx; obtain ⟨z, _, rfl⟩ := hx; rfl) h
  · repeat' split at h
    all_goals first | (cases h; done) | (cases h; rfl)
  · repeat' split at h
    all_goals first | (cases h; rfl) | (cases h; done)
  · repeat' split at h
    all_goals first | (cases h; rfl) | (cases h; done) | (unfold minmax at h; repeat' split at h) | skip
    all_goals first | (cases h; rfl) | (cases h; done)
  · cases h
end Go.Eng
