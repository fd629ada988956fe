/- What each operation does to a frame's values and roots. Nothing is proved here. -/
import Derived.Test.YtcdgdiheoejjgaaVMove
namespace Go.VM
set_option linter.unusedSimpArgs false
set_option linter.unusedVariables false

/-! ### the program's types -/

def elemT (P : Program) (t : TypeId) : Option TypeId := match P.underlying t with | some (.slice e) => if P.cellsOf e = 0 then none else some e | _ => none
def strT (P : Program) (t : TypeId) : Bool := match P.underlying t with | some .string => true | _ => false
def boolT (P : Program) (t : TypeId) : Bool := match P.underlying t with | some .bool => true | _ => false
def intT (P : Program) (t : TypeId) : Option IntKind := match P.underlying t with | some (.int k) => some k | _ => none
def hasT (P : Program) (t : TypeId) : Bool := (P.underlying t).isSome
def aggT (P : Program) (t : TypeId) : Option Bool := match P.underlying t with | some (.struct _) => if P.cellsOf t = 0 then none else some true | some (.array _ _) => none | some _ => some false | none => none
def sizeT (P : Program) (t : TypeId) : Nat := P.cellsOf t
def bytesT (P : Program) (t : TypeId) : Nat := P.bytesOf t
def fieldT (P : Program) (t : TypeId) (f : Nat) : Option (Nat × TypeId) :=
  match P.underlying t with
  | some (.struct fs) => (match fs[f]? with | some f => if P.cellsOf f.type = 0 then none else some (f.offset, f.type) | none => none)
  | _ => none
/-- The cells of a type's zero value. -/
def zeroAt (P : Program) : Nat → TypeId → Option (List T)
  | 0, _ => none
  | d + 1, t =>
    match P.underlying t with
    | some .bool => some [.bool false]
    | some (.int k) => some [.int k 0]
    | some .string => some [.str ⟨#[]⟩]
    | some (.slice e) => some [.list true (P.cellsOf e) []]
    | some (.struct fs) => fs.toList.foldrM (fun f acc => (zeroAt P d f.type).map (· ++ acc)) []
    | _ => none
def sameZero : T → Value → Bool
  | .bool a, .bool b => a == b
  | .int k a, .int k' b => k == k' && a == b
  | .str a, .string b => a.data == b.data
  | .list true _ [], .slice none 0 0 => true
  | _, _ => false
def zeroT (P : Program) (t : TypeId) : Option (List T) :=
  match zeroAt P 20 t, (P.info? t).bind (·.zero) with
  | some cs, some z => if cs.length == z.cells.size && (cs.zip z.cells.toList).all (fun p => sameZero p.1 p.2) && cs.length == P.cellsOf t then some cs else none
  | _, _ => none

/-! ### a frame -/

structure S where
  env : Nat → VV
  st : St

def setE (env : Nat → VV) (t : Nat) (v : VV) : Nat → VV := fun x => if x = t then v else env x
def dstE (env : Nat → VV) (t : Option Tmp) (v : VV) : Nat → VV := match t with | some t => setE env t v | none => env
theorem setE_eq (env : Nat → VV) (t v) : setE env t v t = v := by simp [setE]
theorem setE_ne (env : Nat → VV) {t x : Nat} (v) (h : x ≠ t) : setE env t v x = env x := by simp [setE, h]

/-- What an operation leaves: a value, and the roots that are others now. -/
abbrev Ups := List (Nat × Option Root)
def St.ups (st : St) : Ups → St
  | [] => st
  | (r, R) :: u => (st.put r R).ups u

structure Eff where
  v : VV
  ups : Ups

def lit : Value → VV
  | .int k n => .c (.int k n)
  | .bool b => .c (.bool b)
  | .string x => .c (.str x)
  | _ => .undef

/-- An operand, where it is of that type. -/
def ev (P : Program) (env : Nat → VV) (t : TypeId) : Operand → VV
  | .tmp i => env i
  | .const (.slice none 0 0) => (match elemT P t with | some e => .nils (P.cellsOf e) | none => .undef)
  | .const v => lit v
  | .func f => .fn f []
  | .global _ => .undef

def VV.cells : VV → List VV
  | .agg cs => cs
  | x => [x]

/-- What a cell of a place holds, as a value. -/
def cellV (r : Nat) (p : Path) (m i j : Nat) : T → VV
  | .list true sz es => .al r (p ++ [(i, j)]) m sz 0 es.length
  | .dead => .undef
  | x => .c x

def rowV (r : Nat) (p : Path) (m i : Nat) : Nat → List T → List VV
  | _, [] => []
  | j, x :: xs => cellV r p m i j x :: rowV r p m i (j + 1) xs

def roV : T → VV
  | .list true _ _ => .undef
  | .dead => .undef
  | x => .c x

/-- The rows at a place. -/
def seek (st : St) (r : Nat) (p : Path) (m : Nat) : Option (Root × Nat × List (List T)) :=
  match st r with
  | some R => if fresh R m p then (match nav R.sz R.rows p with | some (sz, rows) => some (R, sz, rows) | none => none) else none
  | none => none

/-- A root out of which the list at a place is taken. -/
def takenUp (R : Root) (p : Path) : Option Root :=
  match p.getLast? with
  | none => none
  | some (i, j) => some { R with rows := modAt (setIn i j .dead) R.rows p.dropLast }

/-- A value goes into memory: lists move. -/
def takeV (st : St) : VV → Option (T × Ups)
  | .c x => (match x with | .list true _ _ => none | .dead => none | x => some (x, []))
  | .nils sz => some (.list true sz [], [])
  | .al r p m sz off len =>
    match seek st r p m with
    | some (R, sz', rows) => if (p = [] → R.box = false) ∧ off + len ≤ rows.length ∧ sz = sz' then some (.list true sz ((rows.drop off).take len), [(r, takenUp R p)]) else none
    | none => none
  | _ => none

def takeVs (st : St) : List VV → Option (List T × Ups)
  | [] => some ([], [])
  | x :: xs =>
    match takeV st x with
    | some (y, u) => (match takeVs (st.ups u) xs with | some (ys, us) => some (y :: ys, u ++ us) | none => none)
    | none => none

def setCells (i : Nat) : Nat → List T → List (List T) → List (List T)
  | _, [], rows => rows
  | j, y :: ys, rows => setCells i (j + 1) ys (setIn i j y rows)

def isOwn : T → Bool
  | .list true _ _ => true
  | _ => false

/-- The places that are filled anew. -/
def filled (p : Path) (i : Nat) : Nat → List T → List Path
  | _, [] => []
  | j, y :: ys => if isOwn y then (p ++ [(i, j)]) :: filled p i (j + 1) ys else filled p i (j + 1) ys

def storeV (st : St) (r : Nat) (p : Path) (m i j : Nat) (xs : List VV) : Option Ups :=
  match seek st r p m with
  | some _ =>
    match takeVs st xs with
    | some (ys, u) =>
      match seek (st.ups u) r p m with
      | some (R, _, rows) =>
        if i < rows.length ∧ j + ys.length ≤ (rows.getD i []).length then some (u ++ [(r, some { R with rows := modAt (setCells i j ys) R.rows p, log := R.log ++ filled p i j ys })]) else none
      | none => none
    | none => none
  | none => none

/-! ### reckoning -/

def scalEq : VV → VV → Option Bool
  | .c (.int k a), .c (.int k' b) => if k = k' then some (decide (a = b)) else none
  | .c (.bool a), .c (.bool b) => some (a == b)
  | .c (.str a), .c (.str b) => some (decide (a = b))
  | _, _ => none

def rowEq : List VV → List VV → Option Bool
  | [], [] => some true
  | x :: xs, y :: ys => match scalEq x y, rowEq xs ys with | some a, some b => some (a && b) | _, _ => none
  | _, _ => none

/-- Are all fields of this struct type plain scalars, one cell each? -/
def flatF (P : Program) : Nat → List Field → Option (List TypeDesc)
  | _, [] => some []
  | i, f :: fs =>
    if f.name ≠ "_" ∧ f.offset = i then
      match P.underlying f.type with
      | some (.int k) => (flatF P (i + 1) fs).map (.int k :: ·)
      | some .string => (flatF P (i + 1) fs).map (.string :: ·)
      | some .bool => (flatF P (i + 1) fs).map (.bool :: ·)
      | _ => none
    else none
def flatT (P : Program) (t : TypeId) : Option (List TypeDesc) :=
  match P.underlying t with
  | some (.struct fs) => if P.stoodInHeld t || P.eqGuardType P.depth t then none else flatF P 0 fs.toList
  | _ => none

def fitD : List TypeDesc → List VV → Bool
  | [], [] => true
  | .int k :: ds, .c (.int k' _) :: xs => k == k' && fitD ds xs
  | .string :: ds, .c (.str _) :: xs => fitD ds xs
  | .bool :: ds, .c (.bool _) :: xs => fitD ds xs
  | _, _ => false

def binV (P : Program) (op : BinOp) (t : TypeId) : VV → VV → Option VV
  | .c (.int k a), .c (.int k' b) =>
    match op with
    | .shl => if b < 0 then none else some (.c (.int k (k.wrap (a * 2 ^ (min b.toNat k.bits)))))
    | .shr => if b < 0 then none else some (.c (.int k (a.fdiv (2 ^ (min b.toNat k.bits)))))
    | op =>
      if k ≠ k' then none else
      match op with
      | .add => some (.c (.int k (k.wrap (a + b))))
      | .sub => some (.c (.int k (k.wrap (a - b))))
      | .mul => some (.c (.int k (k.wrap (a * b))))
      | .quo => if b = 0 then none else some (.c (.int k (k.wrap (a.tdiv b))))
      | .rem => if b = 0 then none else some (.c (.int k (a.tmod b)))
      | .and => some (.c (.int k (k.wrap (BitVec.ofInt k.bits a &&& BitVec.ofInt k.bits b).toNat)))
      | .or => some (.c (.int k (k.wrap (BitVec.ofInt k.bits a ||| BitVec.ofInt k.bits b).toNat)))
      | .xor => some (.c (.int k (k.wrap (BitVec.ofInt k.bits a ^^^ BitVec.ofInt k.bits b).toNat)))
      | .eql => some (.c (.bool (decide (a = b))))
      | .neq => some (.c (.bool (!decide (a = b))))
      | .lss => some (.c (.bool (decide (a < b))))
      | .leq => some (.c (.bool (decide (a ≤ b))))
      | .gtr => some (.c (.bool (decide (b < a))))
      | .geq => some (.c (.bool (decide (b ≤ a))))
      | _ => none
  | .c (.str a), .c (.str b) =>
    match op with
    | .add => if a.size + b.size < 2 ^ 60 then some (.c (.str (a ++ b))) else none
    | .eql => some (.c (.bool (decide (a = b))))
    | .neq => some (.c (.bool (!decide (a = b))))
    | .lss => some (.c (.bool (Op.bytesLess a.toList b.toList)))
    | .leq => some (.c (.bool (Op.bytesLess a.toList b.toList || decide (a = b))))
    | .gtr => some (.c (.bool (!(Op.bytesLess a.toList b.toList || decide (a = b)))))
    | .geq => some (.c (.bool (!Op.bytesLess a.toList b.toList)))
    | _ => none
  | .c (.bool a), .c (.bool b) =>
    if boolT P t then
      match op with
      | .eql => some (.c (.bool (a == b)))
      | .neq => some (.c (.bool (!(a == b))))
      | _ => none
    else none
  | .agg xs, .agg ys =>
    match flatT P t with
    | some ds =>
      if fitD ds xs && fitD ds ys then
        match op with
        | .eql => (rowEq xs ys).map fun b => .c (.bool b)
        | .neq => (rowEq xs ys).map fun b => .c (.bool !b)
        | _ => none
      else none
    | none => none
  | _, _ => none

def unV (op : UnOp) : VV → Option VV
  | .c (.bool b) => (match op with | .not => some (.c (.bool !b)) | _ => none)
  | .c (.int k n) => (match op with | .neg => some (.c (.int k (k.wrap (0 - n)))) | _ => none)
  | _ => none

def byteRow : List T → Option UInt8
  | [.int .u8 n] => some (UInt8.ofNat n.toNat)
  | _ => none
def bytesV (rows : List (List T)) : Option ByteArray := (rows.mapM byteRow).map fun l => ⟨l.toArray⟩
def strRows (s : ByteArray) : List (List T) := s.data.toList.map fun b => [.int .u8 b.toNat]

/-- The rows that a slice reads. -/
def rowsOf (st : St) : VV → Option (Nat × List (List T))
  | .nils sz => some (sz, [])
  | .c (.list false sz es) => some (sz, es)
  | .al r p m sz off len =>
    match seek st r p m with
    | some (_, sz', rows) => if off + len ≤ rows.length ∧ sz = sz' then some (sz, (rows.drop off).take len) else none
    | none => none
  | _ => none

def lenV : VV → Option Nat
  | .nils _ => some 0
  | .c (.list false _ es) => some es.length
  | .c (.str s) => some s.size
  | .al _ _ _ _ _ len => some len
  | _ => none

def i64 (n : Int) : VV := .c (.int .i64 n)

/-! ### the operations -/

def loadV (P : Program) (st : St) (t : TypeId) : VV → Option VV
  | .ptr r p m i j =>
    match seek st r p m with
    | some (R, _, rows) =>
      if i < rows.length then
        let row := rows.getD i []
        match aggT P t with
        | some true => if j + P.cellsOf t ≤ row.length then some (.agg (rowV r p R.log.length i j ((row.drop j).take (P.cellsOf t)))) else none
        | some false => if j < row.length then some (cellV r p R.log.length i j (row.getD j .dead)) else none
        | none => none
      else none
    | none => none
  | .rop cs =>
    match aggT P t with
    | some true => if P.cellsOf t ≤ cs.length then some (.agg ((cs.take (P.cellsOf t)).map roV)) else none
    | some false => (match cs with | x :: _ => some (roV x) | [] => none)
    | none => none
  | _ => none

def partV (P : Program) (t : TypeId) (cs : List VV) (off : Nat) : Option VV :=
  match aggT P t with
  | some true => if off + P.cellsOf t ≤ cs.length then some (.agg ((cs.drop off).take (P.cellsOf t))) else none
  | some false => cs[off]?
  | none => none

def zeroV : T → VV
  | .list true sz [] => .nils sz
  | .list true _ _ => .undef
  | x => .c x

/-- A value whose cells we can count. -/
def VV.solid : VV → Bool
  | .undef => false
  | .tup _ => false
  | .c .dead => false
  | _ => true

/-- Parts laid over a row. -/
def fillV (place : Nat → Option (Nat × Nat)) (cells : List VV) : List (Nat × VV) → Option (List VV)
  | [] => some cells
  | (i, v) :: rest =>
    match place i with
    | none => none
    | some (off, size) =>
      if v.cells.length ≠ size ∨ off + v.cells.length > cells.length ∨ v.solid = false then none
      else fillV place (cells.take off ++ v.cells ++ cells.drop (off + v.cells.length)) rest

/-- Where a struct's fields lie: the place, the cells, the type. -/
def placesT (P : Program) (t : TypeId) : Option (List (Nat × Nat × TypeId)) :=
  match P.underlying t with
  | some (.struct fs) => if fs.toList.all (fun f => (P.info? f.type).isSome) then some (fs.toList.map fun f => (f.offset, P.cellsOf f.type, f.type)) else none
  | _ => none

/-- A bound of a slice expression. -/
def boundV : Option VV → Nat → Option Nat
  | none, d => some d
  | some (.c (.int _ n)), _ => if 0 ≤ n then some n.toNat else none
  | _, _ => none

def cutV (P : Program) (t : TypeId) (l h : Nat) : VV → Option VV
  | .c (.str s) => if strT P t then some (.c (.str (s.extract l h))) else none
  | .nils sz => if elemT P t ≠ none then some (.nils sz) else none
  | .c (.list false sz es) => (match elemT P t with | some e => if P.cellsOf e = sz then some (.c (.list false sz ((es.drop l).take (h - l)))) else none | none => none)
  | .al r p m sz off _ => (match elemT P t with | some e => if P.cellsOf e = sz then some (.al r p m sz (off + l) (h - l)) else none | none => none)
  | _ => none

def sliceV (P : Program) (t : TypeId) (x : VV) (lo hi : Option VV) : Option VV :=
  match boundV lo 0, lenV x with
  | some l, some len => (match boundV hi len with | some h => if l ≤ h ∧ h ≤ len then cutV P t l h x else none | none => none)
  | _, _ => none

def indexAddrV (P : Program) (t : TypeId) : VV → VV → Option VV
  | .al r p m sz off len, .c (.int _ n) =>
    (match elemT P t with | some e => if P.cellsOf e = sz ∧ 0 ≤ n ∧ n < len then some (.ptr r p m (off + n.toNat) 0) else none | none => none)
  | .c (.list false sz es), .c (.int _ n) =>
    (match elemT P t with | some e => if P.cellsOf e = sz ∧ 0 ≤ n ∧ n < es.length then some (.rop (es.getD n.toNat [])) else none | none => none)
  | _, _ => none

def plainT : T → Bool
  | .list true _ _ => false
  | .dead => false
  | _ => true
def noOwn (rows : List (List T)) : Bool := rows.all fun r => r.all plainT

/-- The greatest size of a row that we follow, in bytes. -/
def bigRow : Nat := 2 ^ 44

/-- Nothing of the row stands behind the slice. -/
def atEnd (st : St) : VV → Bool
  | .al r p m _ off len => (match seek st r p m with | some (_, _, rows) => off + len == rows.length | none => false)
  | _ => true

def appendV (P : Program) (fid : Nat) (st : St) (sT xT : TypeId) (s x : VV) : Option Eff :=
  match elemT P sT with
  | none => none
  | some e =>
    match (match x with | .c (.str b) => if strT P xT && P.cellsOf e == 1 then some (1, strRows b) else none | x => if elemT P xT = none then none else rowsOf st x) with
    | none => none
    | some (szx, xs) =>
      if szx ≠ P.cellsOf e ∨ noOwn xs = false ∨ zeroT P e = none ∨ atEnd st s = false then none else
      match takeV st s with
      | some (.list true sz ys, u) =>
        if sz ≠ P.cellsOf e ∨ (ys.length + xs.length + 1) * (P.bytesOf e + 1) > bigRow then none
        else some ⟨.al fid [] 0 sz 0 (ys.length + xs.length), u ++ [(fid, some ⟨false, sz, ys ++ xs, []⟩)]⟩
      | _ => none

def lenOk (P : Program) (t : TypeId) : VV → Bool
  | .c (.str _) => strT P t
  | _ => (elemT P t).isSome

def builtinV (P : Program) (fid : Nat) (env : Nat → VV) (st : St) (c : Call) : Option Eff :=
  match c.callee with
  | .builtin b =>
    match b, c.args.toList, c.argTypes.toList with
    | .len, [x], [t] => if lenOk P t (ev P env t x) then (lenV (ev P env t x)).map fun (n : Nat) => ⟨i64 (n : Int), []⟩ else none
    | .append, [s, x], [sT, xT] => appendV P fid st sT xT (ev P env sT s) (ev P env xT x)
    | .max, [x, y], _ => (match ev P env 0 x, ev P env 0 y with | .c (.int .i64 a), .c (.int .i64 b) => some ⟨i64 (if b > a then b else a), []⟩ | _, _ => none)
    | .min, [x, y], _ => (match ev P env 0 x, ev P env 0 y with | .c (.int .i64 a), .c (.int .i64 b) => some ⟨i64 (if b < a then b else a), []⟩ | _, _ => none)
    | _, _, _ => none
  | _ => none

def vop (P : Program) (fid : Nat) (o : Oper) (env : Nat → VV) (st : St) : Option Eff :=
  match o.op with
  | .move x | .assign x => some ⟨ev P env o.type x, []⟩
  | .pick c a b => (match ev P env 0 c with | .c (.bool t) => some ⟨if t then ev P env o.type a else ev P env o.type b, []⟩ | _ => none)
  | .nilCheck x => (match ev P env 0 x with | .ptr r p m i j => some ⟨.ptr r p m i j, []⟩ | .rop cs => some ⟨.rop cs, []⟩ | .fn f cs => some ⟨.fn f cs, []⟩ | _ => none)
  | .alloc e => (match zeroT P e with | some z => some ⟨.ptr fid [] 0 0 0, [(fid, some ⟨true, z.length, [z], []⟩)]⟩ | none => none)
  | .box e x =>
    match takeVs st (ev P env e x).cells with
    | some (ys, u) => if ys.length ≤ 1000 then some ⟨.ptr fid [] 0 0 0, u ++ [(fid, some ⟨true, ys.length, [ys], []⟩)]⟩ else none
    | none => none
  | .build t parts =>
    match zeroT P t, placesT P t with
    | some z, some pl =>
      (fillV (fun i => (pl[i]?).map fun q => (q.1, q.2.1)) (z.map zeroV) (parts.toList.map fun q => (q.1, ev P env (((pl[q.1]?).map fun q => q.2.2).getD 0) q.2))).map fun cs => ⟨.agg cs, []⟩
    | _, _ => none
  | .buildSlice t len parts =>
    match elemT P t with
    | some e =>
      match zeroT P e with
      | some z =>
        if len * P.cellsOf e > 1000 then none else
        match fillV (fun i => some (i * P.cellsOf e, P.cellsOf e)) ((List.replicate len (z.map zeroV)).flatten) (parts.toList.map fun q => (q.1, ev P env e q.2)) with
        | some cs =>
          match takeVs st cs with
          | some (ys, u) => some ⟨.al fid [] 0 (P.cellsOf e) 0 len, u ++ [(fid, some ⟨false, P.cellsOf e, (List.range len).map fun i => (ys.drop (i * P.cellsOf e)).take (P.cellsOf e), []⟩)]⟩
          | none => none
        | none => none
      | none => none
    | none => none
  | .load t a => (loadV P st t (ev P env 0 a)).map fun v => ⟨v, []⟩
  | .store t a x =>
    match ev P env 0 a with
    | .ptr r p m i j =>
      let xs := (ev P env t x).cells
      if xs.length = P.cellsOf t ∧ P.cellsOf t ≠ 0 ∧ P.cellsOf t ≤ 1000 then (storeV st r p m i j xs).map fun u => ⟨.undef, u⟩ else none
    | _ => none
  | .binOp op t x y _ => (binV P op t (ev P env t x) (ev P env t y)).map fun v => ⟨v, []⟩
  | .unOp op _ x => (unV op (ev P env 0 x)).map fun v => ⟨v, []⟩
  | .convert s t x =>
    if hasT P s = false then none else
    match ev P env s x with
    | .c (.int _ n) => (match intT P t with | some k => some ⟨.c (.int k (k.wrap n)), []⟩ | none => none)
    | .c (.str b) =>
      if strT P t then some ⟨.c (.str b), []⟩ else
      (match elemT P t with | some e => if intT P e = some .u8 ∧ P.cellsOf e = 1 then some ⟨.al fid [] 0 1 0 b.size, [(fid, some ⟨false, 1, strRows b, []⟩)]⟩ else none | none => none)
    | x =>
      if strT P t then
        (match elemT P s with
         | some e => if intT P e = some .u8 then (match rowsOf st x with | some (1, rows) => (bytesV rows).map fun b => ⟨.c (.str b), []⟩ | _ => none) else none
         | none => none)
      else none
  | .makeSlice t l c =>
    match elemT P t, ev P env 0 l, ev P env 0 c with
    | some e, .c (.int _ n), .c (.int _ k) =>
      (match zeroT P e with
       | some z => if 0 ≤ n ∧ n ≤ k ∧ k * (P.bytesOf e + 1) ≤ bigRow then some ⟨.al fid [] 0 (P.cellsOf e) 0 n.toNat, [(fid, some ⟨false, P.cellsOf e, List.replicate n.toNat z, []⟩)]⟩ else none
       | none => none)
    | _, _, _ => none
  | .slice t x lo hi none => (sliceV P t (ev P env t x) (lo.map (ev P env 0)) (hi.map (ev P env 0))).map fun v => ⟨v, []⟩
  | .fieldAddr t x f =>
    match fieldT P t f, ev P env 0 x with
    | some (off, _), .ptr r p m i j => some ⟨.ptr r p m i (j + off), []⟩
    | some (off, _), .rop cs => if off ≥ cs.length then none else some ⟨.rop (cs.drop off), []⟩
    | _, _ => none
  | .field t x f =>
    match fieldT P t f, ev P env t x with
    | some (off, ft), .agg cs => (partV P ft cs off).map fun v => ⟨v, []⟩
    | _, _ => none
  | .indexAddr t x i => (indexAddrV P t (ev P env t x) (ev P env 0 i)).map fun v => ⟨v, []⟩
  | .index t x i =>
    match ev P env t x, ev P env 0 i with
    | .c (.str s), .c (.int _ n) => if strT P t ∧ 0 ≤ n ∧ n < s.size then some ⟨.c (.int .u8 (s.data.toList.getD n.toNat 0).toNat), []⟩ else none
    | _, _ => none
  | .extract x i =>
    match ev P env 0 x with
    | .tup vs => (vs[i]?).map fun v => ⟨v, []⟩
    | _ => none
  | .call c => builtinV P fid env st c
  | _ => none

end Go.VM
