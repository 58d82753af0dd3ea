/- The value machine: an executable, deterministic reading of the model's code over abstract values. Slices are values; structs behind pointers live in a small heap of rows. No condition. -/
import Derived.Calls
import Derived.Orders
import Derived.Scope
set_option linter.unusedSimpArgs false
set_option linter.unusedVariables false
namespace Go.Vm

/-- A map from numbers, however it is laid. -/
class Mp (μ : Type → Type) where
  emp : {α : Type} → μ α
  get : {α : Type} → μ α → Nat → Option α
  set : {α : Type} → μ α → Nat → α → μ α
  get_emp : ∀ {α : Type} (j : Nat), get (emp : μ α) j = none
  get_set : ∀ {α : Type} (m : μ α) (i : Nat) (x : α) (j : Nat), get (set m i x) j = if j = i then some x else get m j

/-- The plain one: functions. -/
def Fm (α : Type) : Type := Nat → Option α
instance : Mp Fm where
  emp := fun _ => none
  get := fun m j => m j
  set := fun m i x j => if j = i then some x else m j
  get_emp := fun _ => rfl
  get_set := fun _ _ _ _ => rfl

/-- Abstract values. -/
inductive AV where
  | undef
  | bad
  | bool (b : Bool)
  | int (k : IntKind) (n : Int)
  | flt (k : FloatKind) (b : Nat)
  | cpx (k : FloatKind) (re im : Nat)
  | str (s : List UInt8)
  | nilp
  | ptr (o off : Nat)
  | el (v : AV) (off : Nat)
  | nils
  | sl (g off sz : Nat) (cp : Bool) (els : List AV)
  | nilm
  | mp (o : Nat)
  | fn (f : Fn) (first cap : List AV)
  | nilf
  | ifc (t : Nat) (v : AV)
  | nili
  | agg (cs : List AV)
  | tup (vs : List AV)

instance : Inhabited AV := ⟨.undef⟩

/-- The cells of a value. -/
def AV.cells : AV → List AV
  | .agg cs => cs
  | v => [v]

/-- It is surely one cell. -/
def AV.isCell : AV → Bool
  | .undef | .bad | .agg _ | .tup _ => false
  | _ => true

/-- What a block of the machine's own holds. -/
inductive AObj where
  | row (cs : List AV)
  | mp (es : List (AV × AV))

structure Hp (μ : Type → Type) where
  obj : μ AObj
  no : Nat
  len : μ Nat
  ng : Nat

structure St (μ : Type → Type) where
  t : μ AV
  nt : Nat
  h : Hp μ

section
variable {μ : Type → Type} [Mp μ]

def Hp.empty : Hp μ := { obj := Mp.emp, no := 0, len := Mp.emp, ng := 1 }

def tget (t : μ AV) (i : Nat) : AV := (Mp.get t i).getD .undef

/-- A constant of one cell. -/
def ofScalar : Value → AV
  | .bool b => .bool b
  | .int k n => .int k n
  | .float k b => .flt k b
  | .complex k a b => .cpx k a b
  | .string s => .str s.data.toList
  | .pointer none => .nilp
  | .slice none 0 0 => .nils
  | .map none => .nilm
  | .nilFunc => .nilf
  | .nilIface => .nili
  | .func f a b => if a.size = 0 ∧ b.size = 0 then .fn f [] [] else .bad
  | _ => .bad

/-- A constant. -/
def ofVal : Value → AV
  | .agg cs => .agg (cs.toList.map ofScalar)
  | .iface t v => .ifc t (ofScalar v)
  | v => ofScalar v

def ev (t : μ AV) : Operand → AV
  | .tmp i => tget t i
  | .const v => ofVal v
  | .global _ => .bad
  | .func f => .fn (.func f) [] []

variable (P : Program)

def tsize (t : TypeId) : Option Nat := (P.info? t).map (·.size)
def tbytes (t : TypeId) : Option Nat := (P.info? t).map (·.bytes)
def tzero (t : TypeId) : Option AV := (P.info? t).bind fun i => i.zero.map ofVal
def tagg (t : TypeId) : Option Bool := (P.underlying t).map fun | .struct _ | .array _ _ => true | _ => false

/-- The part of some cells that a type takes from a place on. -/
def partAV (ag : Bool) (n : Nat) (cs : List AV) (off : Nat) : Option AV :=
  if ag then (if off + n ≤ cs.length then some (.agg ((cs.drop off).take n)) else none) else cs[off]?

def splice (cs : List AV) (off : Nat) (vs : List AV) : List AV := cs.take off ++ vs ++ cs.drop (off + vs.length)

def loadAV (h : Hp μ) (t : TypeId) (a : AV) : Option AV :=
  (tagg P t).bind fun ag => (tsize P t).bind fun n =>
    match a with
    | .ptr o off => match Mp.get h.obj o with
      | some (.row cs) => partAV ag n cs off
      | _ => none
    | .el v off => partAV ag n v.cells off
    | _ => none

def storeAV (h : Hp μ) (t : TypeId) (a v : AV) : Option (Hp μ) :=
  (tsize P t).bind fun n =>
    match a with
    | .ptr o off => match Mp.get h.obj o with
      | some (.row cs) => if v.cells.length = n ∧ off + n ≤ cs.length ∧ v.cells.all AV.isCell = true then some { h with obj := Mp.set h.obj o (.row (splice cs off v.cells)) } else none
      | _ => none
    | _ => none

/-- A new row. -/
def newRowAV (h : Hp μ) (cs : List AV) : AV × Hp μ := (.ptr h.no 0, { h with obj := Mp.set h.obj h.no (.row cs), no := h.no + 1 })

/-- A new slice. -/
def newSl (h : Hp μ) (sz : Nat) (els : List AV) : AV × Hp μ := (.sl h.ng 0 sz false els, { h with len := Mp.set h.len h.ng els.length, ng := h.ng + 1 })

def fillAV (place : Nat → Option (Nat × Nat)) (cs : List AV) : List (Nat × AV) → Option (List AV)
  | [] => some cs
  | (i, v) :: rest => match place i with
    | none => none
    | some (off, size) => if v.cells.length = size ∧ off + size ≤ cs.length ∧ v.cells.all AV.isCell = true then fillAV place (splice cs off v.cells) rest else none

def buildAV (t : TypeId) (parts : List (Nat × AV)) : Option AV :=
  (tzero P t).bind fun z => if z.cells.all AV.isCell = false then none else match P.underlying t with
    | some (.struct fields) => if fields.toList.all (fun f => (tsize P f.type).isSome) = false then none else (fillAV (fun i => (fields[i]?).bind fun f => (tsize P f.type).map fun n => (f.offset, n)) z.cells parts).map .agg
    | some (.array _ e) => (tsize P e).bind fun n => (fillAV (fun i => some (i * n, n)) z.cells parts).map .agg
    | _ => none

/-- The elements of a slice that is written out. -/
def setEls (sz : Nat) (els : List AV) : List (Nat × AV) → Option (List AV)
  | [] => some els
  | (i, v) :: rest => if v.cells.length = sz ∧ i < els.length ∧ v.cells.all AV.isCell = true then setEls sz (els.set i v) rest else none

def buildSliceAV (h : Hp μ) (t : TypeId) (len : Nat) (parts : List (Nat × AV)) : Option (AV × Hp μ) :=
  match P.underlying t with
  | some (.slice e) => (tsize P e).bind fun n => (tzero P e).bind fun z =>
    if 0 < n ∧ len * n ≤ 65536 ∧ z.cells.length = n ∧ z.cells.all AV.isCell = true then (setEls n (List.replicate len z) parts).map (newSl h n) else none
  | _ => none

/-- Go's order of texts. -/
def ltB : List UInt8 → List UInt8 → Bool
  | _, [] => false
  | [], _ :: _ => true
  | a :: x, b :: y => a < b || (a == b && ltB x y)

def eqB : List UInt8 → List UInt8 → Bool
  | [], [] => true
  | a :: x, b :: y => a == b && eqB x y
  | _, _ => false

def intBin (op : BinOp) (k : IntKind) (a b : Int) : Option AV :=
  match op with
  | .add => some (.int k (k.wrap (a + b)))
  | .sub => some (.int k (k.wrap (a - b)))
  | .mul => some (.int k (k.wrap (a * b)))
  | .quo => if b = 0 then none else some (.int k (k.wrap (a.tdiv b)))
  | .rem => if b = 0 then none else some (.int k (a.tmod b))
  | .and => some (.int k (k.wrap (BitVec.ofInt k.bits a &&& BitVec.ofInt k.bits b).toNat))
  | .or => some (.int k (k.wrap (BitVec.ofInt k.bits a ||| BitVec.ofInt k.bits b).toNat))
  | .xor => some (.int k (k.wrap (BitVec.ofInt k.bits a ^^^ BitVec.ofInt k.bits b).toNat))
  | .andNot => some (.int k (k.wrap (BitVec.ofInt k.bits a &&& ~~~ BitVec.ofInt k.bits b).toNat))
  | .eql => some (.bool (decide (a = b)))
  | .neq => some (.bool (!decide (a = b)))
  | .lss => some (.bool (decide (a < b)))
  | .leq => some (.bool (decide (a ≤ b)))
  | .gtr => some (.bool (decide (a > b)))
  | .geq => some (.bool (decide (a ≥ b)))
  | .shl | .shr => none

def shiftBin (op : BinOp) (k : IntKind) (a b : Int) : Option AV :=
  if b < 0 then none else match op with
  | .shl => some (.int k (k.wrap (a * 2 ^ (min b.toNat k.bits))))
  | .shr => some (.int k (a.fdiv (2 ^ (min b.toNat k.bits))))
  | _ => none

def strBin (op : BinOp) (x y : List UInt8) : Option AV :=
  match op with
  | .add => if x.length + y.length ≤ 2 ^ 46 then some (.str (x ++ y)) else none
  | .eql => some (.bool (eqB x y))
  | .neq => some (.bool (!eqB x y))
  | .lss => some (.bool (ltB x y))
  | .leq => some (.bool (ltB x y || eqB x y))
  | .gtr => some (.bool (!(ltB x y || eqB x y)))
  | .geq => some (.bool (!ltB x y))
  | _ => none

/-- Are two values of a type one? (as the model asks it: by the type) -/
def eqlAV : (depth : Nat) → TypeId → AV → AV → Option Bool
  | 0, _, _, _ => none
  | d + 1, t, x, y =>
    match P.underlying t, x, y with
    | some .bool, .bool a, .bool b => some (a == b)
    | some (.int _), .int k a, .int k' b => if k = k' then some (decide (a = b)) else none
    | some .string, .str a, .str b => some (eqB a b)
    | some (.pointer _), .nilp, .nilp => some true
    | some (.pointer _), .nilp, .ptr _ _ | some (.pointer _), .ptr _ _, .nilp => some false
    | some (.slice _), .nils, .nils => some true
    | some (.slice _), .nils, .sl .. | some (.slice _), .sl .., .nils => some false
    | some (.map _ _), .nilm, .nilm => some true
    | some (.map _ _), .nilm, .mp _ | some (.map _ _), .mp _, .nilm => some false
    | some (.func ..), .nilf, .nilf => some true
    | some (.func ..), .nilf, .fn .. | some (.func ..), .fn .., .nilf => some false
    | some (.struct fields), .agg xs, .agg ys =>
      if P.stoodInHeld t || P.eqGuardType P.depth t then none else
      fields.toList.foldr (fun f acc => if f.name = "_" then acc else
        (tagg P f.type).bind fun ag => (tsize P f.type).bind fun n => (partAV ag n xs f.offset).bind fun a => (partAV ag n ys f.offset).bind fun b => (eqlAV d f.type a b).bind fun r => if r then acc else some false) (some true)
    | _, _, _ => none

def binAV (op : BinOp) (t : TypeId) (x y : AV) : Option AV :=
  match op, x, y with
  | .shl, .int k a, .int _ b => shiftBin .shl k a b
  | .shr, .int k a, .int _ b => shiftBin .shr k a b
  | op, .int k a, .int k' b => if k = k' then intBin op k a b else none
  | op, .str a, .str b => strBin op a b
  | .eql, x, y => (eqlAV P 20 t x y).map .bool
  | .neq, x, y => (eqlAV P 20 t x y).map fun b => .bool (!b)
  | _, _, _ => none

def unAV (op : UnOp) (x : AV) : Option AV :=
  match op, x with
  | .neg, .int k n => some (.int k (k.wrap (0 - n)))
  | .xor, .int k n => some (.int k (k.wrap (BitVec.ofInt k.bits (if k.signed then -1 else k.max) ^^^ BitVec.ofInt k.bits n).toNat))
  | .not, .bool b => some (.bool (!b))
  | _, _ => none

def byteAV (b : UInt8) : AV := .int .u8 b.toNat

def asByte : AV → Option UInt8
  | .int .u8 n => some (UInt8.ofNat n.toNat)
  | _ => none

def isU8 (e : TypeId) : Bool := match P.underlying e with | some (.int .u8) => true | _ => false

def convAV (h : Hp μ) (src dst : TypeId) (x : AV) : Option (AV × Hp μ) :=
  match P.underlying src, P.underlying dst, x with
  | some (.int _), some (.int k), .int _ n => some (.int k (k.wrap n), h)
  | some .string, some .string, .str s => some (.str s, h)
  | some .string, some (.slice e), .str s => if isU8 P e = true ∧ s.length ≤ 2 ^ 40 then some (newSl h 1 (s.map byteAV)) else none
  | some (.slice e), some .string, .nils => if isU8 P e then some (.str [], h) else none
  | some (.slice e), some .string, .sl _ _ sz _ els => if isU8 P e = true ∧ sz = 1 then (els.mapM asByte).map fun s => (.str s, h) else none
  | _, _, _ => none

def intOf : AV → Option Int
  | .int _ n => some n
  | _ => none

/-- A bound of a slice expression, at most y. -/
def bound (x : AV) (y : Nat) : Option Nat := match x with
  | .int _ i => if 0 ≤ i ∧ i ≤ y then some i.toNat else none
  | _ => none

def obound (x : Option AV) (dflt y : Nat) : Option Nat := match x with
  | some v => bound v y
  | none => some dflt

def sliceAV (t : TypeId) (x : AV) (lo hi mx : Option AV) : Option AV :=
  match P.underlying t, x with
  | some .string, .str s => if mx.isSome then none else
    (obound hi s.length s.length).bind fun h => (obound lo 0 h).bind fun l => some (.str ((s.drop l).take (h - l)))
  | some (.slice e), .nils => (tsize P e).bind fun _ => (obound mx 0 0).bind fun m => (obound hi 0 m).bind fun h => (obound lo 0 h).bind fun _ => if mx.isSome && hi.isNone then none else some .nils
  | some (.slice e), .sl g off sz cp els =>
    if mx.isSome && hi.isNone || tsize P e != some sz then none else
    (obound mx els.length els.length).bind fun m => (obound hi els.length m).bind fun h => (obound lo 0 h).bind fun l =>
      some (.sl g (off + l) sz (if mx.isSome then h == m else cp && h == els.length) ((els.drop l).take (h - l)))
  | _, _ => none

def fieldPlaceAV (s : TypeId) (f : Nat) : Option (Nat × TypeId) :=
  match P.underlying s with
  | some (.struct fields) => (fields[f]?).map fun g => (g.offset, g.type)
  | _ => none

def fieldAddrAV (s : TypeId) (x : AV) (f : Nat) : Option AV :=
  (fieldPlaceAV P s f).bind fun q => (tsize P q.2).bind fun n => if n = 0 then none else
    match x with
    | .ptr o off => some (.ptr o (off + q.1))
    | .el v off => some (.el v (off + q.1))
    | _ => none

def fieldAV (s : TypeId) (x : AV) (f : Nat) : Option AV :=
  (fieldPlaceAV P s f).bind fun q => (tagg P q.2).bind fun ag => (tsize P q.2).bind fun n =>
    match x with
    | .agg cs => partAV ag n cs q.1
    | _ => none

def indexAddrAV (t : TypeId) (x ix : AV) : Option AV :=
  match ix with
  | .int _ i =>
    match P.underlying t, x with
    | some (.slice e), .sl _ _ sz _ els => if 0 ≤ i ∧ tsize P e = some sz then (els[i.toNat]?).map fun v => .el v 0 else none
    | some (.array n e), .ptr o off => (tsize P e).bind fun sz => if 0 ≤ i ∧ i < n then some (.ptr o (off + i.toNat * sz)) else none
    | some (.array n e), .el v off => (tsize P e).bind fun sz => if 0 ≤ i ∧ i < n then some (.el v (off + i.toNat * sz)) else none
    | _, _ => none
  | _ => none

def indexAV (t : TypeId) (x ix : AV) : Option AV :=
  match ix with
  | .int _ i =>
    match P.underlying t, x with
    | some .string, .str s => if 0 ≤ i then (s[i.toNat]?).map byteAV else none
    | some (.array n e), .agg cs => (tagg P e).bind fun ag => (tsize P e).bind fun sz => if 0 ≤ i ∧ i < n then partAV ag sz cs (i.toNat * sz) else none
    | _, _ => none
  | _ => none

def lenAV (t : TypeId) (x : AV) : Option AV :=
  match P.underlying t, x with
  | some .string, .str s => some (.int .i64 s.length)
  | some (.slice _), .sl _ _ _ _ els => some (.int .i64 els.length)
  | some (.slice _), .nils => some (.int .i64 0)
  | some (.map _ _), .nilm => some (.int .i64 0)
  | some (.array n _), _ => some (.int .i64 n)
  | _, _ => none

/-- The things that are appended. -/
def newEls (sz : Nat) : AV → Option (List AV)
  | .nils => some []
  | .sl _ _ sz' _ els => if sz' = sz then some els else none
  | .str s => if sz = 1 then some (s.map byteAV) else none
  | _ => none

def isIntD : TypeDesc → Bool
  | .int _ => true
  | _ => false

def appendAV (h : Hp μ) (t1 t2 : TypeId) (s x : AV) : Option (AV × Hp μ) :=
  match P.underlying t1, P.underlying t2 with
  | some (.slice e), some d2 => if isIntD d2 = true then none else
    (tsize P e).bind fun sz => (tbytes P e).bind fun by_ => (tzero P e).bind fun z => (newEls sz x).bind fun new => if sz = 0 ∨ by_ = 0 ∨ z.cells.length ≠ sz then none else
      match s with
      | .nils => if new.length = 0 then some (.nils, h) else if new.length * by_ ≤ 2 ^ 40 then some (newSl h sz new) else none
      | .sl g off sz' cp els =>
        if sz' ≠ sz then none else if new.length = 0 then some (.sl g off sz' cp els, h) else
        if (els.length + new.length) * by_ ≤ 2 ^ 40 then
          (if cp then some (newSl h sz (els ++ new))
           else if Mp.get h.len g = some (off + els.length) then some (.sl g off sz false (els ++ new), { h with len := Mp.set h.len g (off + els.length + new.length) })
           else none)
        else none
      | _ => none
  | _, _ => none

def makeSliceAV (h : Hp μ) (t : TypeId) (l c : AV) : Option (AV × Hp μ) :=
  match P.underlying t, l, c with
  | some (.slice e), .int _ n, .int _ m => (tsize P e).bind fun sz => (tbytes P e).bind fun by_ => (tzero P e).bind fun z =>
    if 0 < sz ∧ 0 ≤ n ∧ n ≤ m ∧ m * by_ ≤ 2 ^ 40 ∧ m ≤ 2 ^ 40 ∧ z.cells.length = sz ∧ z.cells.all AV.isCell = true then some (newSl h sz (List.replicate n.toNat z)) else none
  | _, _, _ => none

def minmax (isMax : Bool) : List AV → Option AV
  | [.int k a] => some (.int k a)
  | [.int k a, .int _ b] => some (.int k (if isMax then (if a < b then b else a) else (if b < a then b else a)))
  | [.int k a, .int _ b, .int _ c] => let m := if isMax then (if a < b then b else a) else (if b < a then b else a); some (.int k (if isMax then (if m < c then c else m) else (if c < m then c else m)))
  | _ => none

def extractAV (x : AV) (i : Nat) : Option AV := match x with
  | .tup vs => vs[i]?
  | _ => none

/-- What an operation comes to. -/
inductive Eff (μ : Type → Type) where
  | val (v : AV) (h : Hp μ)
  | skip (h : Hp μ)
  | enter (f : Nat) (args : List AV) (h : Hp μ)

def vals (h : Hp μ) (v : Option AV) : Option (Eff μ) := v.map fun v => .val v h
def valh (v : Option (AV × Hp μ)) : Option (Eff μ) := v.map fun v => .val v.1 v.2

def hasBody (f : Nat) : Bool := match P.funcs[f]? with
  | some fn => fn.body.isSome && fn.name != "runtime.NumGoroutine"
  | none => false

def enterFn (h : Hp μ) (f : AV) (args : List AV) : Option (Eff μ) := match f with
  | .fn (.func g) first cap => if hasBody P g then some (.enter g (first ++ args ++ cap) h) else none
  | _ => none

def builtinAV (h : Hp μ) (b : Builtin) (ts : Array TypeId) (args : List AV) : Option (Eff μ) :=
  match b, args with
  | .len, [x] => (ts[0]?).bind fun t => vals h (lenAV P t x)
  | .append, [s, x] => (ts[0]?).bind fun t1 => (ts[1]?).bind fun t2 => valh (appendAV P h t1 t2 s x)
  | .min, l => vals h (minmax false l)
  | .max, l => vals h (minmax true l)
  | _, _ => none

def opEff (ρ : Operand → AV) (h : Hp μ) (o : Oper) : Option (Eff μ) :=
  match o.op with
  | .move x | .assign x => some (.val (ρ x) h)
  | .pick c a b => match ρ c with
    | .bool q => some (.val (if q then ρ a else ρ b) h)
    | _ => none
  | .alloc e => (tzero P e).bind fun z => if z.cells.all AV.isCell then valh (some (newRowAV h z.cells)) else none
  | .box _ x => if (ρ x).cells.all AV.isCell then valh (some (newRowAV h (ρ x).cells)) else none
  | .build t parts => vals h (buildAV P t (parts.toList.map fun p => (p.1, ρ p.2)))
  | .buildSlice t len parts => valh (buildSliceAV P h t len (parts.toList.map fun p => (p.1, ρ p.2)))
  | .load t a => vals h (loadAV P h t (ρ a))
  | .store t a x => (storeAV P h t (ρ a) (ρ x)).map .skip
  | .nilCheck x => match ρ x with
    | .ptr a b => some (.val (.ptr a b) h)
    | .el a b => some (.val (.el a b) h)
    | .fn (.func f) a b => some (.val (.fn (.func f) a b) h)
    | _ => none
  | .binOp op t x y _ => vals h (binAV P op t (ρ x) (ρ y))
  | .unOp op _ x => vals h (unAV op (ρ x))
  | .convert s d x => valh (convAV P h s d (ρ x))
  | .makeInterface t x => match P.underlying t with
    | some (.interface _) => none
    | some _ => some (.val (.ifc t (ρ x)) h)
    | none => none
  | .makeFunc f a b => some (.val (.fn f (a.toList.map ρ) (b.toList.map ρ)) h)
  | .makeSlice t l c => valh (makeSliceAV P h t (ρ l) (ρ c))
  | .slice t x l u m => vals h (sliceAV P t (ρ x) (l.map ρ) (u.map ρ) (m.map ρ))
  | .fieldAddr s x f => vals h (fieldAddrAV P s (ρ x) f)
  | .field s x f => vals h (fieldAV P s (ρ x) f)
  | .indexAddr t x i => vals h (indexAddrAV P t (ρ x) (ρ i))
  | .index t x i => vals h (indexAV P t (ρ x) (ρ i))
  | .extract x i => vals h (extractAV (ρ x) i)
  | .call c => match c.callee with
    | .builtin b => builtinAV P h b c.argTypes (c.args.toList.map ρ)
    | .value f => enterFn P h (ρ f) (c.args.toList.map ρ)
    | .invoke .. => none
  | _ => none

/-- What a call answers. -/
abbrev Cf (μ : Type → Type) : Type := Nat → List AV → Hp μ → Option (AV × Hp μ)

def put (st : St μ) (dst : Option Nat) (v : AV) : Option (St μ) := match dst with
  | none => some st
  | some d => if d < st.nt then some { st with t := Mp.set st.t d v } else none

/-- Is an operation to be done? none: it is not known. -/
def want (ops : Array Oper) (t : μ AV) (o : Oper) : Option Bool := match o.guard with
  | none => some true
  | some (j, b) => match (ops[j]?).bind (·.dst) with
    | none => some false
    | some d => match tget t d with
      | .bool q => some (q == b)
      | .bad => none
      | _ => some false

def stepOp (cf : Cf μ) (ops : Array Oper) (o : Oper) (st : St μ) : Option (St μ) :=
  match want ops st.t o with
  | none => none
  | some false => put st o.dst .undef
  | some true => match opEff P (ev st.t) st.h o with
    | some (.val v h) => put { st with h := h } o.dst v
    | some (.skip h) => put { st with h := h } o.dst .undef
    | some (.enter f args h) => match cf f args h with
      | some (r, h') => put { st with h := h' } o.dst r
      | none => none
    | none => none

def runOps (cf : Cf μ) (ops : Array Oper) : List Oper → St μ → Option (St μ)
  | [], st => some st
  | o :: rest, st => match stepOp P cf ops o st with
    | some st' => runOps cf ops rest st'
    | none => none

/-- How a piece of code is left. -/
inductive Ex where
  | normal
  | exit (id : Nat)
  | goto (l : Nat)
  | ret

/-- Code. m: inside which scope. -/
def execF (cf : Cf μ) (df : Array Oper → St μ → Option (St μ)) : Nat → Option Code → Code → St μ → Option (Ex × St μ)
  | 0, _, _, _ => none
  | n + 1, some b, c, st => match execF cf df n none c st with
    | some (.goto l, st') => match findLabel b l with
      | some rest => execF cf df n (some b) rest st'
      | none => some (.goto l, st')
    | r => r
  | n + 1, none, c, st => match c with
    | .skip => some (.normal, st)
    | .label _ => some (.normal, st)
    | .ret => some (.ret, st)
    | .exit i => some (.exit i, st)
    | .goto l => some (.goto l, st)
    | .seq a b => match execF cf df n none a st with
      | some (.normal, st') => execF cf df n none b st'
      | r => r
    | .cond x a b => match ev st.t x with
      | .bool true => execF cf df n none a st
      | .bool false => execF cf df n none b st
      | _ => none
    | .block id b => match execF cf df n none b st with
      | some (.exit i, st') => if i = id then some (.normal, st') else some (.exit i, st')
      | r => r
    | .loop b => match execF cf df n none b st with
      | some (.normal, st') => execF cf df n none (.loop b) st'
      | r => r
    | .scope b => execF cf df n (some b) b st
    | .region _ ops draw => if draw then (df ops st).map fun s => (.normal, s) else (runOps P cf ops ops.toList st).map fun s => (.normal, s)
    | _ => none

def argsT (args : List AV) : μ AV := (args.foldl (fun (p : μ AV × Nat) a => (Mp.set p.1 p.2 a, p.2 + 1)) (Mp.emp, 0)).1

def resultV (t : μ AV) (h : Hp μ) : ResultVar → Option AV
  | .tmp i => some (tget t i)
  | .cell a ty => loadAV P h ty (tget t a)

def resultsAV (fn : Func) (t : μ AV) (h : Hp μ) : Option AV :=
  match fn.results.toList with
  | [r] => resultV P t h r
  | rs => (rs.mapM (resultV P t h)).map .tup
end
end Go.Vm
