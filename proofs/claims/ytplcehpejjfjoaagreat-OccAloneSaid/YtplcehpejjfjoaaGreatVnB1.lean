/- The value machine: an executable, deterministic reading of the model's code over abstract values. Slices are values; structs behind pointers live in a small heap of rows. No condition. -/
import Derived.Calls
import Derived.Orders
import Derived.Scope
import Derived.Lib.Bytealg
import Derived.Lib.Overlaps
import Derived.Laws.World
import Derived.Laws.Sem
import Derived.WalkKit
set_option linter.unusedSimpArgs false
set_option linter.unusedVariables false
namespace Go.Vn
class Mp (μ:Type→Type) where
 emp:{α:Type}→μ α
 get:{α:Type}→μ α→Nat→Option α
 set:{α:Type}→μ α→Nat→α→μ α
 get_emp:∀{α:Type} (j:Nat),get (emp:μ α) j=none
 get_set:∀{α:Type} (m:μ α) (i:Nat) (x:α) (j:Nat),get (set m i x) j=if j=i then some x else get m j
def Fm(α:Type):Type:=Nat→Option α
instance:Mp Fm where
 emp:=fun _=>none
 get:=fun m j=>m j
 set:=fun m i x j=>if j=i then some x else m j
 get_emp:=fun _=>rfl
 get_set:=fun _ _ _ _=>rfl
inductive AV where
 | undef
 | bad
 | bool (b:Bool)
 | int (k:IntKind) (n:Int)
 | flt (k:FloatKind) (b:Nat)
 | cpx (k:FloatKind) (re im:Nat)
 | str (s:List UInt8)
 | nilp
 | ptr (o off:Nat)
 | el (v:AV) (off:Nat)
 | nils
 | esl (cap:Nat)
 | sl (g off sz cap:Nat) (els:List AV)
 | rs (o off sz:Nat) (ag:Bool) (n cap:Nat)
 | nilm
 | mp (o:Nat)
 | fn (f:Fn) (first cap:List AV)
 | yl (o:Nat)
 | nilf
 | ifc (t:Nat) (v:AV)
 | nili
 | agg (cs:List AV)
 | tup (vs:List AV)
instance:Inhabited AV:=⟨.undef⟩
def AV.cells:AV→List AV
 | .agg cs=>cs
 | v=>[v]
def AV.isCell:AV→Bool
 | .undef | .bad | .agg _ | .tup _=>false
 | _=>true
structure ALoop(μ:Type→Type) where
 state:LoopState
 pending:Option Code
 t:μ AV
 nt:Nat
 params:Array Nat
 assign:Code
 body:Code
inductive AObj(μ:Type→Type) where
 | row (cs:List AV)
 | mp (es:List (AV × AV × Nat)) (clock:Nat)
 | iter (m:Option Nat) (since:Nat) (seen:List Nat) (last:Nat)
 | siter (s:List UInt8) (pos:Nat)
 | loop (l:ALoop μ)
 | dead
structure Hp(μ:Type→Type) where
 obj:μ (AObj μ)
 no:Nat
 len:μ Nat
 ng:Nat
 tape:Tape
 drawn:Nat
 pol:TypeId→Bool
structure St(μ:Type→Type) where
 t:μ AV
 nt:Nat
 h:Hp μ
 ro:Option Nat:=none
section
variable {μ:Type→Type} [Mp μ]
def Hp.empty(tape:Tape)(drawn:Nat)(pol:TypeId→Bool):Hp μ:={ obj:=Mp.emp,no:=0,len:=Mp.emp,ng:=1,tape,drawn,pol }
def Hp.drew(h:Hp μ):Hp μ:={ h with drawn:=h.drawn+1 }
def Hp.grown(h:Hp μ)(need cap:Nat)(e:TypeId):Nat:=(Question.appendCap need cap e).cut (h.tape h.drawn (.appendCap need cap e))
def tget(t:μ AV)(i:Nat):AV:=(Mp.get t i).getD .undef
def ofScalar:Value→AV
 | .bool b=>.bool b
 | .int k n=>.int k n
 | .float k b=>.flt k b
 | .complex k a b=>.cpx k a b
 | .string s=>.str s.data.toList
 | .pointer none=>.nilp
 | .slice none 0 0=>.nils
 | .map none=>.nilm
 | .nilFunc=>.nilf
 | .nilIface=>.nili
 | .func f a b=>if a.size=0∧b.size=0 then .fn f [] []else .bad
 | _=>.bad
def ofVal:Value→AV
 | .agg cs=>.agg (cs.toList.map ofScalar)
 | .iface t v=>.ifc t (ofScalar v)
 | v=>ofScalar v
def ev(t:μ AV):Operand→AV
 | .tmp i=>tget t i
 | .const v=>ofVal v
 | .global _=>.bad
 | .func f=>.fn (.func f) [] []
variable (P:Program)
def tsize(t:TypeId):Option Nat:=(P.info? t).map (·.size)
def tbytes(t:TypeId):Option Nat:=(P.info? t).map (·.bytes)
def tzero(t:TypeId):Option AV:=(P.info? t).bind fun i=>i.zero.map ofVal
def tagg(t:TypeId):Option Bool:=(P.underlying t).map fun | .struct _ | .array _ _=>true | _=>false
def partAV(ag:Bool)(n:Nat)(cs:List AV)(off:Nat):Option AV:=
 if ag then(if off+n≤cs.length then some (.agg ((cs.drop off).take n))else none)else cs[off]?
def splice(cs:List AV)(off:Nat)(vs:List AV):List AV:=cs.take off++vs++cs.drop (off+vs.length)
def loadAV(h:Hp μ)(t:TypeId)(a:AV):Option AV:=
 (tagg P t).bind fun ag=>(tsize P t).bind fun n=>
  match a with
  | .ptr o off=>match Mp.get h.obj o with
   | some (.row cs)=>partAV ag n cs off
   | _=>none
  | .el v off=>partAV ag n v.cells off
  | _=>none
def storeAV(h:Hp μ)(t:TypeId)(a v:AV):Option (Hp μ):=
 (tsize P t).bind fun n=>
  match a with
  | .ptr o off=>match Mp.get h.obj o with
   | some (.row cs)=>if v.cells.length=n∧off+n≤cs.length∧v.cells.all AV.isCell=true then some { h with obj:=Mp.set h.obj o (.row (splice cs off v.cells)) }else none
   | _=>none
  | _=>none
def newRowAV(h:Hp μ)(cs:List AV):AV × Hp μ:=(.ptr h.no 0,{ h with obj:=Mp.set h.obj h.no (.row cs),no:=h.no+1 })
def newSl(h:Hp μ)(sz cap:Nat)(els:List AV):AV × Hp μ:=(.sl h.ng 0 sz cap els,{ h with len:=Mp.set h.len h.ng els.length,ng:=h.ng+1 })
def newRs(h:Hp μ)(sz:Nat)(ag:Bool)(zc:List AV)(cap:Nat)(els:List AV):AV × Hp μ:=
 (.rs h.no 0 sz ag els.length cap,{ h with obj:=Mp.set h.obj h.no (.row (els.flatMap AV.cells++(List.replicate (cap-els.length) zc).flatten)),no:=h.no+1 })
def newSeq(h:Hp μ)(e:TypeId)(sz:Nat)(ag:Bool)(zc:List AV)(cap:Nat)(els:List AV):AV × Hp μ:=
 if h.pol e then newRs h sz ag zc cap els else newSl h sz cap els
def chunkAV(ag:Bool)(sz:Nat):Nat→List AV→List AV
 | 0,_=>[]
 | n+1,cs=>(if ag then .agg (cs.take sz)else cs.headD .undef)::chunkAV ag sz n (cs.drop sz)
def rsEls(h:Hp μ)(o off sz:Nat)(ag:Bool)(n:Nat):Option (List AV):=match Mp.get h.obj o with
 | some (.row cs)=>if 0<sz∧(ag=false→sz=1)∧off+n*sz≤cs.length then some (chunkAV ag sz n (cs.drop off))else none
 | _=>none
def fillAV(place:Nat→Option (Nat × Nat))(cs:List AV):List (Nat × AV)→Option (List AV)
 | []=>some cs
 | (i,v)::rest=>match place i with
  | none=>none
  | some (off,size)=>if v.cells.length=size∧off+size≤cs.length∧v.cells.all AV.isCell=true then fillAV place (splice cs off v.cells) rest else none
def buildAV(t:TypeId)(parts:List (Nat × AV)):Option AV:=
 (tzero P t).bind fun z=>if z.cells.all AV.isCell=false then none else match P.underlying t with
  | some (.struct fields)=>if fields.toList.all (fun f=>(tsize P f.type).isSome)=false then none else(fillAV (fun i=>(fields[i]?).bind fun f=>(tsize P f.type).map fun n=>(f.offset,n)) z.cells parts).map .agg
  | some (.array _ e)=>(tsize P e).bind fun n=>(fillAV (fun i=>some (i*n,n)) z.cells parts).map .agg
  | _=>none
def setEls(sz:Nat)(els:List AV):List (Nat × AV)→Option (List AV)
 | []=>some els
 | (i,v)::rest=>if v.cells.length=sz∧i<els.length∧v.cells.all AV.isCell=true then setEls sz (els.set i v) rest else none
def buildSliceAV(h:Hp μ)(t:TypeId)(len:Nat)(parts:List (Nat × AV)):Option (AV × Hp μ):=
 match P.underlying t with
 | some (.slice e)=>(tsize P e).bind fun n=>(tagg P e).bind fun ag=>(tzero P e).bind fun z=>
  if 0<n∧len*n≤65536∧z.cells.length=n∧z.cells.all AV.isCell=true then(setEls n (List.replicate len z) parts).map (newSeq h e n ag z.cells len)else none
 | _=>none
def ltB:List UInt8→List UInt8→Bool
 | _,[]=>false
 | [],_::_=>true
 | a::x,b::y=>a<b || (a == b&&ltB x y)
def eqB:List UInt8→List UInt8→Bool
 | [],[]=>true
 | a::x,b::y=>a == b&&eqB x y
 | _,_=>false
def intBin(op:BinOp)(k:IntKind)(a b:Int):Option AV:=
 match op with
 | .add=>some (.int k (k.wrap (a+b)))
 | .sub=>some (.int k (k.wrap (a-b)))
 | .mul=>some (.int k (k.wrap (a*b)))
 | .quo=>if b=0 then none else some (.int k (k.wrap (a.tdiv b)))
 | .rem=>if b=0 then none else some (.int k (a.tmod b))
 | .and=>some (.int k (k.wrap (BitVec.ofInt k.bits a &&& BitVec.ofInt k.bits b).toNat))
 | .or=>some (.int k (k.wrap (BitVec.ofInt k.bits a ||| BitVec.ofInt k.bits b).toNat))
 | .xor=>some (.int k (k.wrap (BitVec.ofInt k.bits a ^^^ BitVec.ofInt k.bits b).toNat))
 | .andNot=>some (.int k (k.wrap (BitVec.ofInt k.bits a &&& ~~~ BitVec.ofInt k.bits b).toNat))
 | .eql=>some (.bool (decide (a=b)))
 | .neq=>some (.bool (!decide (a=b)))
 | .lss=>some (.bool (decide (a<b)))
 | .leq=>some (.bool (decide (a≤b)))
 | .gtr=>some (.bool (decide (a>b)))
 | .geq=>some (.bool (decide (a≥b)))
 | .shl | .shr=>none
def shiftBin(op:BinOp)(k:IntKind)(a b:Int):Option AV:=
 if b<0 then none else match op with
 | .shl=>some (.int k (k.wrap (a*2 ^ (min b.toNat k.bits))))
 | .shr=>some (.int k (a.fdiv (2 ^ (min b.toNat k.bits))))
 | _=>none
def strBin(op:BinOp)(x y:List UInt8):Option AV:=
 match op with
 | .add=>if x.length+y.length≤2 ^ 46 then some (.str (x++y))else none
 | .eql=>some (.bool (eqB x y))
 | .neq=>some (.bool (!eqB x y))
 | .lss=>some (.bool (ltB x y))
 | .leq=>some (.bool (ltB x y || eqB x y))
 | .gtr=>some (.bool (!(ltB x y || eqB x y)))
 | .geq=>some (.bool (!ltB x y))
 | _=>none
def eqlAV:(depth:Nat)→TypeId→AV→AV→Option Bool
 | 0,_,_,_=>none
 | d+1,t,x,y=>
  match P.underlying t,x,y with
  | some .bool,.bool a,.bool b=>some (a == b)
  | some (.int _),.int k a,.int k' b=>if k=k' then some (decide (a=b))else none
  | some .string,.str a,.str b=>some (eqB a b)
  | some (.pointer _),.nilp,.nilp=>some true
  | some (.pointer _),.nilp,.ptr _ _ | some (.pointer _),.ptr _ _,.nilp=>some false
  | some (.slice _),.nils,.nils=>some true
  | some (.slice _),.nils,.sl .. | some (.slice _),.sl ..,.nils=>some false
  | some (.slice _),.nils,.rs .. | some (.slice _),.rs ..,.nils=>some false
  | some (.slice _),.nils,.esl _ | some (.slice _),.esl _,.nils=>some false
  | some (.map _ _),.nilm,.nilm=>some true
  | some (.map _ _),.nilm,.mp _ | some (.map _ _),.mp _,.nilm=>some false
  | some (.func ..),.nilf,.nilf=>some true
  | some (.func ..),.nilf,.fn .. | some (.func ..),.fn ..,.nilf=>some false
  | some (.func ..),.nilf,.yl .. | some (.func ..),.yl ..,.nilf=>some false
  | some (.struct fields),.agg xs,.agg ys=>
   if P.stoodInHeld t || P.eqGuardType P.depth t then none else
   fields.toList.foldr (fun f acc => if f.name = "_" then acc else
    (tagg P f.type).bind fun ag=>(tsize P f.type).bind fun n=>(partAV ag n xs f.offset).bind fun a=>(partAV ag n ys f.offset).bind fun b=>(eqlAV d f.type a b).bind fun r=>if r then acc else some false) (some true)
  | _,_,_=>none
def binAV(op:BinOp)(t:TypeId)(x y:AV):Option AV:=
 match op,x,y with
 | .shl,.int k a,.int _ b=>shiftBin .shl k a b
 | .shr,.int k a,.int _ b=>shiftBin .shr k a b
 | op,.int k a,.int k' b=>if k=k' then intBin op k a b else none
 | op,.str a,.str b=>strBin op a b
 | .eql,x,y=>(eqlAV P 20 t x y).map .bool
 | .neq,x,y=>(eqlAV P 20 t x y).map fun b=>.bool (!b)
 | _,_,_=>none
def unAV(op:UnOp)(x:AV):Option AV:=
 match op,x with
 | .neg,.int k n=>some (.int k (k.wrap (0-n)))
 | .xor,.int k n=>some (.int k (k.wrap (BitVec.ofInt k.bits (if k.signed then -1 else k.max) ^^^ BitVec.ofInt k.bits n).toNat))
 | .not,.bool b=>some (.bool (!b))
 | _,_=>none
def byteAV(b:UInt8):AV:=.int .u8 b.toNat
def asByte:AV→Option UInt8
 | .int .u8 n=>some (UInt8.ofNat n.toNat)
 | _=>none
def isU8(e:TypeId):Bool:=match P.underlying e with | some (.int .u8)=>true | _=>false
def convAV(h:Hp μ)(src dst:TypeId)(x:AV):Option (AV × Hp μ):=
 match P.underlying src,P.underlying dst,x with
 | some (.int _),some (.int k),.int _ n=>some (.int k (k.wrap n),h)
 | some .string,some .string,.str s=>some (.str s,h)
 | some .string,some (.slice e),.str s=>if isU8 P e=true∧s.length≤2 ^ 40 then some (newSl h.drew 1 (h.grown s.length 0 e) (s.map byteAV))else none
 | some (.slice _),some (.slice e),.sl g off sz cap els=>if src=dst∧isU8 P e=true∧g≠0∧els.length≠0 then some (.sl g off sz cap els,h)else none
 | some (.slice e),some .string,.nils=>if isU8 P e then some (.str [],h)else none
 | some (.slice e),some .string,.esl _=>if isU8 P e then some (.str [],h)else none
 | some (.slice e),some .string,.sl _ _ sz _ els=>if isU8 P e=true∧sz=1 then(els.mapM asByte).map fun s=>(.str s,h)else none
 | some (.slice e),some .string,.rs o off sz ag n _=>if isU8 P e=true∧sz=1∧ag=false then(rsEls h o off sz ag n).bind fun els=>(els.mapM asByte).map fun s=>(.str s,h)else none
 | _,_,_=>none
def intOf:AV→Option Int
 | .int _ n=>some n
 | _=>none
def bound(x:AV)(y:Nat):Option Nat:=match x with
 | .int _ i=>if 0≤i∧i≤y then some i.toNat else none
 | _=>none
def obound(x:Option AV)(dflt y:Nat):Option Nat:=match x with
 | some v=>bound v y
 | none=>some dflt
def sliceAV(t:TypeId)(x:AV)(lo hi mx:Option AV):Option AV:=
 match P.underlying t,x with
 | some .string,.str s=>if mx.isSome then none else
  (obound hi s.length s.length).bind fun h=>(obound lo 0 h).bind fun l=>some (.str ((s.drop l).take (h-l)))
 | some (.slice e),.nils=>(tsize P e).bind fun _=>(obound mx 0 0).bind fun m=>(obound hi 0 m).bind fun h=>(obound lo 0 h).bind fun _=>if mx.isSome&&hi.isNone then none else some .nils
 | some (.slice e),.esl cap=>(tsize P e).bind fun _=>(obound mx 0 0).bind fun _=>(obound hi 0 0).bind fun _=>(obound lo 0 0).bind fun _=>if mx.isSome&&hi.isNone then none else some (.esl (if mx.isSome then 0 else cap))
 | some (.slice e),.rs o off sz ag n cap=>
  if mx.isSome&&hi.isNone || tsize P e != some sz then none else
  (obound mx cap cap).bind fun m=>(obound hi n m).bind fun h=>(obound lo 0 h).bind fun l=>
   some (.rs o (if m=l then off else off+l*sz) sz ag (h-l) (m-l))
 | some (.slice e),.sl g off sz cap els=>
  if mx.isSome&&hi.isNone || tsize P e != some sz then none else
  (obound mx els.length els.length).bind fun m=>(obound hi els.length m).bind fun h=>(obound lo 0 h).bind fun l=>
   some (.sl g (off+l) sz ((if mx.isSome then m else cap)-l) ((els.drop l).take (h-l)))
 | _,_=>none
def fieldPlaceAV(s:TypeId)(f:Nat):Option (Nat × TypeId):=
 match P.underlying s with
 | some (.struct fields)=>(fields[f]?).map fun g=>(g.offset,g.type)
 | _=>none
def fieldAddrAV(s:TypeId)(x:AV)(f:Nat):Option AV:=
 (fieldPlaceAV P s f).bind fun q=>(tsize P q.2).bind fun n=>if n=0 then none else
  match x with
  | .ptr o off=>some (.ptr o (off+q.1))
  | .el v off=>some (.el v (off+q.1))
  | _=>none
def fieldAV(s:TypeId)(x:AV)(f:Nat):Option AV:=
 (fieldPlaceAV P s f).bind fun q=>(tagg P q.2).bind fun ag=>(tsize P q.2).bind fun n=>
  match x with
  | .agg cs=>partAV ag n cs q.1
  | _=>none
def indexAddrAV(t:TypeId)(x ix:AV):Option AV:=
 match ix with
 | .int _ i=>
  match P.underlying t,x with
  | some (.slice e),.sl _ _ sz _ els=>if 0≤i∧tsize P e=some sz then(els[i.toNat]?).map fun v=>.el v 0 else none
  | some (.slice e),.rs o off sz _ n _=>if 0≤i∧i<n∧tsize P e=some sz then some (.ptr o (off+i.toNat*sz))else none
  | some (.array n e),.ptr o off=>(tsize P e).bind fun sz=>if 0≤i∧i<n then some (.ptr o (off+i.toNat*sz))else none
  | some (.array n e),.el v off=>(tsize P e).bind fun sz=>if 0≤i∧i<n then some (.el v (off+i.toNat*sz))else none
  | _,_=>none
 | _=>none
def indexAV(t:TypeId)(x ix:AV):Option AV:=
 match ix with
 | .int _ i=>
  match P.underlying t,x with
  | some .string,.str s=>if 0≤i then(s[i.toNat]?).map byteAV else none
  | some (.array n e),.agg cs=>(tagg P e).bind fun ag=>(tsize P e).bind fun sz=>if 0≤i∧i<n then partAV ag sz cs (i.toNat*sz)else none
  | _,_=>none
 | _=>none
def lenAV(t:TypeId)(x:AV):Option AV:=
 match P.underlying t,x with
 | some .string,.str s=>some (.int .i64 s.length)
 | some (.slice _),.sl _ _ _ _ els=>some (.int .i64 els.length)
 | some (.slice _),.rs _ _ _ _ n _=>some (.int .i64 n)
 | some (.slice _),.nils=>some (.int .i64 0)
 | some (.slice _),.esl _=>some (.int .i64 0)
 | some (.map _ _),.nilm=>some (.int .i64 0)
 | some (.array n _),_=>some (.int .i64 n)
 | _,_=>none
def capAV(t:TypeId)(x:AV):Option AV:=
 match P.underlying t,x with
 | some (.slice _),.sl _ _ _ cap _=>some (.int .i64 cap)
 | some (.slice _),.rs _ _ _ _ _ cap=>some (.int .i64 cap)
 | some (.slice _),.nils=>some (.int .i64 0)
 | some (.slice _),.esl cap=>some (.int .i64 cap)
 | _,_=>none
def newEls(h:Hp μ)(sz:Nat)(ag:Bool):AV→Option (List AV)
 | .nils=>some []
 | .esl _=>some []
 | .sl _ _ sz' _ els=>if sz'=sz then some els else none
 | .str s=>if sz=1 then some (s.map byteAV)else none
 | .rs o off sz' ag' n _=>if sz'=sz∧ag'=ag then rsEls h o off sz ag n else none
 | _=>none
def isIntD:TypeDesc→Bool
 | .int _=>true
 | _=>false
def zeroEls(z:AV)(by_:Nat):AV→Option (List AV)
 | .int .i64 l=>if 0≤l∧l*by_≤2 ^ 40∧l≤2 ^ 40 then some (List.replicate l.toNat z)else none
 | _=>none
def appendTo(h:Hp μ)(e sz by_:Nat)(ag:Bool)(z s:AV)(new:List AV):Option (AV × Hp μ):=match s with
 | .nils=>if new.length=0 then some (.nils,h)else if new.length*by_≤2 ^ 40 then some (newSeq h.drew e sz ag z.cells (h.grown new.length 0 e) new)else none
 | .esl cap=>if new.length=0 then some (.esl cap,h)else if new.length*by_≤2 ^ 40∧cap<new.length then some (newSeq h.drew e sz ag z.cells (h.grown new.length cap e) new)else none
 | .sl g off sz' cap els=>
  if sz'≠sz then none else if new.length=0 then some (.sl g off sz' cap els,h)else
  if (els.length+new.length)*by_≤2 ^ 40 then
   (if cap<els.length+new.length then some (newSeq h.drew e sz ag z.cells (h.grown (els.length+new.length) cap e) (els++new))
    else if Mp.get h.len g=some (off+els.length)then some (.sl g off sz cap (els++new),{ h with len:=Mp.set h.len g (off+els.length+new.length) })
    else none)
  else none
 | .rs o off sz' ag' n cap=>
  if sz'≠sz∨ag'≠ag then none else if new.length=0 then some (.rs o off sz ag n cap,h)else
  if (n+new.length)*by_≤2 ^ 40 then
   (if cap<n+new.length then(rsEls h o off sz ag n).map fun els=>newRs h.drew sz ag z.cells (h.grown (n+new.length) cap e) (els++new)
    else match Mp.get h.obj o with
     | some (.row cs)=>if off+(n+new.length)*sz≤cs.length then some (.rs o off sz ag (n+new.length) cap,{ h with obj:=Mp.set h.obj o (.row (splice cs (off+n*sz) (new.flatMap AV.cells))) })else none
     | _=>none)
  else none
 | _=>none
def appendAV(h:Hp μ)(t1 t2:TypeId)(s x:AV):Option (AV × Hp μ):=
 match P.underlying t1,P.underlying t2 with
 | some (.slice e),some d2=>
  (tsize P e).bind fun sz=>(tagg P e).bind fun ag=>(tbytes P e).bind fun by_=>(tzero P e).bind fun z=>(if isIntD d2=true then zeroEls z by_ x else newEls h sz ag x).bind fun new=>
   if sz=0∨by_=0∨z.cells.length≠sz∨z.cells.all AV.isCell=false∨(ag=false∧sz≠1)then none else appendTo h e sz by_ ag z s new
 | _,_=>none
def makeSliceAV(h:Hp μ)(t:TypeId)(l c:AV):Option (AV × Hp μ):=
 match P.underlying t,l,c with
 | some (.slice e),.int _ n,.int _ m=>(tsize P e).bind fun sz=>(tagg P e).bind fun ag=>(tbytes P e).bind fun by_=>(tzero P e).bind fun z=>
  if 0<sz∧0≤n∧n≤m∧m*by_≤2 ^ 40∧m≤2 ^ 40∧z.cells.length=sz∧z.cells.all AV.isCell=true then some (newSeq h e sz ag z.cells m.toNat (List.replicate n.toNat z))else none
 | _,_,_=>none
def minmax(isMax:Bool):List AV→Option AV
 | [.int k a]=>some (.int k a)
 | [.int k a,.int _ b]=>some (.int k (if isMax then(if a<b then b else a)else(if b<a then b else a)))
 | [.int k a,.int _ b,.int _ c]=>let m:=if isMax then(if a<b then b else a)else(if b<a then b else a);some (.int k (if isMax then(if m<c then c else m)else(if c<m then c else m)))
 | _=>none
def extractAV(x:AV)(i:Nat):Option AV:=match x with
 | .tup vs=>vs[i]?
 | _=>none
def copyAV(h:Hp μ)(t:TypeId)(d s:AV):Option (AV × Hp μ):=
 match P.underlying t with
 | some (.slice e)=>(tsize P e).bind fun sz=>(tagg P e).bind fun ag=>(newEls h sz ag s).bind fun new=>
  match d with
  | .nils=>some (.int .i64 0,h)
  | .rs o off sz' ag' n _=>if sz'≠sz∨ag'≠ag then none else match Mp.get h.obj o with
   | some (.row cs)=>if off+n*sz≤cs.length then some (.int .i64 (min new.length n:Nat),{ h with obj:=Mp.set h.obj o (.row (splice cs off ((new.take n).flatMap AV.cells))) })else none
   | _=>none
  | _=>none
 | _=>none
def clearAV(h:Hp μ)(t:TypeId)(d:AV):Option (AV × Hp μ):=
 match P.underlying t with
 | some (.slice e)=>(tsize P e).bind fun sz=>(tzero P e).bind fun z=>
  match d with
  | .nils=>some (.tup [],h)
  | .esl _=>some (.tup [],h)
  | .rs o off sz' _ n _=>if sz'≠sz∨z.cells.length≠sz∨z.cells.all AV.isCell=false∨sz=0 then none else if n=0 then some (.tup [],h)else match Mp.get h.obj o with
   | some (.row cs)=>if off+n*sz≤cs.length then some (.tup [],{ h with obj:=Mp.set h.obj o (.row (splice cs off (List.replicate n z.cells).flatten)) })else none
   | _=>none
  | _=>none
 | _=>none
def checkAV:Nat→TypeId→AV→Bool
 | 0,_,_=>false
 | d+1,t,v=>match P.underlying t,v with
  | some (.int _),_ | some .string,_ | some .bool,_=>true
  | some (.struct fields), .agg cs => fields.toList.all fun f => f.name == "_" || (match tagg P f.type, tsize P f.type with
   | some ag,some n=>match partAV ag n cs f.offset with
    | some x=>checkAV d f.type x
    | none=>false
   | _,_=>false)
  | _,_=>false
def beqS:AV→AV→Bool
 | .bool a,.bool b=>a == b
 | .int k a,.int k' b=>decide (k=k')&&decide (a=b)
 | .str a,.str b=>eqB a b
 | _,_=>false
def beqSs:List AV→List AV→Bool
 | [],[]=>true
 | a::x,b::y=>beqS a b&&beqSs x y
 | _,_=>false
def beqK:AV→AV→Bool
 | .agg a,.agg b=>beqSs a b
 | a,b=>beqS a b
def findAV(kt:TypeId)(k:AV):List (AV × AV × Nat)→Nat→Option (Option (Nat × AV))
 | [],_=>some none
 | (k',v,_)::es,i=>match eqlAV P 20 kt k k' with
  | some true=>some (some (i,v))
  | some false=>findAV kt k es (i+1)
  | none=>none
def makeMapAV(h:Hp μ)(t:TypeId)(r:Option AV):Option (AV × Hp μ):=match P.underlying t with
 | some (.map _ _)=>if (match r with | none=>true | some (.int _ _)=>true | _=>false)then some (.mp h.no,{ h with obj:=Mp.set h.obj h.no (.mp [] 0),no:=h.no+1 })else none
 | _=>none
def entriesAV(h:Hp μ):AV→Option (List (AV × AV × Nat))
 | .nilm=>some []
 | .mp o=>match Mp.get h.obj o with
  | some (.mp es _)=>some es
  | _=>none
 | _=>none
def lookupAV(h:Hp μ)(t:TypeId)(x ix:AV)(ok:Bool):Option AV:=match P.underlying t with
 | some (.map kt et)=>(entriesAV h x).bind fun es=>if checkAV P 20 kt ix=false then none else(findAV P kt ix es 0).bind fun
  | some (_,v)=>some (if ok then .tup [v,.bool true]else v)
  | none=>(tzero P et).map fun z=>if ok then .tup [z,.bool false]else z
 | _=>none
def mapUpdateAV(h:Hp μ)(t:TypeId)(m k v:AV):Option (Hp μ):=match P.underlying t,m with
 | some (.map kt _),.mp o=>match Mp.get h.obj o with
  | some (.mp es clock)=>if checkAV P 20 kt k=false then none else(findAV P kt k es 0).bind fun
   | some (i,_)=>match es[i]? with
    | some e=>if beqK e.1 k then some { h with obj:=Mp.set h.obj o (.mp (es.set i (k,v,e.2.2)) clock) }else none
    | none=>none
   | none=>some { h with obj:=Mp.set h.obj o (.mp (es++[(k,v,clock)]) (clock+1)) }
  | _=>none
 | _,_=>none
def deleteAV(h:Hp μ)(t:TypeId)(m k:AV):Option (AV × Hp μ):=match P.underlying t,m with
 | some (.map kt _),.nilm=>if checkAV P 20 kt k=false then none else some (.tup [],h)
 | some (.map kt _),.mp o=>match Mp.get h.obj o with
  | some (.mp es clock)=>if checkAV P 20 kt k=false then none else(findAV P kt k es 0).bind fun
   | some (i,_)=>some (.tup [],{ h with obj:=Mp.set h.obj o (.mp (es.eraseIdx i) clock) })
   | none=>some (.tup [],h)
  | _=>none
 | _,_=>none
def rangeAV(h:Hp μ)(t:TypeId)(x:AV):Option (AV × Hp μ):=match P.underlying t,x with
 | some (.map _ _),.nilm=>some (.ptr h.no 0,{ h with obj:=Mp.set h.obj h.no (.iter none 0 [] 0),no:=h.no+1 })
 | some (.map _ _),.mp o=>match Mp.get h.obj o with
  | some (.mp _ clock)=>some (.ptr h.no 0,{ h with obj:=Mp.set h.obj h.no (.iter (some o) clock [] clock),no:=h.no+1 })
  | _=>none
 | _,_=>none
def candsAV(es:List (AV × AV × Nat))(since:Nat)(seen:List Nat):List (Option (AV × AV × Nat)):=
 let left:=es.filter fun e => !seen.contains e.2.2
 let old:=left.filter fun e=>decide (e.2.2<since)
 let new:=left.filter fun e=>decide (since≤e.2.2)
 (if old.isEmpty then [none]else [])++(old++new).map some
def Hp.pick(h:Hp μ)(n:Nat):Nat × Hp μ:=if n≤1 then(0,h)else(h.tape h.drawn (.mapNext n)%n,h.drew)
def nextAV(h:Hp μ)(it:AV)(isString:Bool):Option (AV × Hp μ):=match it,isString with
 | .ptr r 0,false=>match Mp.get h.obj r with
  | some (.iter none _ _ _)=>some (.tup [.bool false],h)
  | some (.iter (some m) since seen last)=>match Mp.get h.obj m with
   | some (.mp es clock)=>
    if (!seen.isEmpty && !es.isEmpty&&es.all fun e=>decide (last≤e.2.2))=true then none else
    let q:=h.pick (candsAV es since seen).length
    match (candsAV es since seen)[q.1]? with
    | some (some e)=>some (.tup [.bool true,e.1,e.2.1],{ q.2 with obj:=Mp.set q.2.obj r (.iter (some m) since (seen++[e.2.2]) clock) })
    | some none=>some (.tup [.bool false],q.2)
    | none=>none
   | _=>none
  | _=>none
 | _,_=>none
def entryAV(h:Hp μ)(it:AV):Option AV:=match it with
 | .ptr r 0=>match Mp.get h.obj r with
  | some (.iter (some m) _ seen stepped)=>seen.getLast?.bind fun stamp=>match Mp.get h.obj m with
   | some (.mp es clock)=>if clock=stepped then(es.find? fun e=>decide (e.2.2=stamp)).map fun e=>.tup [e.1,e.2.1]else none
   | _=>none
  | _=>none
 | _=>none
def lenMapAV(h:Hp μ)(t:TypeId)(o:Nat):Option AV:=match P.underlying t,Mp.get h.obj o with
 | some (.map _ _),some (.mp es _)=>some (.int .i64 es.length)
 | _,_=>none
def idxByte(s:List UInt8)(c:UInt8):Int:=match s.findIdx? (· == c)with
 | some i=>i
 | none=>-1
def noRow(n:String):Bool:=(Extern.allGenericRows.lookup n).isNone&&(Extern.allTypedRows.lookup n).isNone&&(Extern.allRows.lookup n).isNone&&(Extern.allNextRows.lookup n).isNone
def overlapsAV(h:Hp μ):AV→AV→Option Bool
 | .nils,.nils=>some false
 | .nils,.rs .. => some false
 | .rs ..,.nils=>some false
 | .rs o off sz ag n _,.rs o' off' sz' _ n' _=>if n=0∨n'=0 then some false else if sz≠sz'∨sz=0 then none else if o=o' then some (decide (off<off'+n'*sz)&&decide (off'<off+n*sz))else
  match Mp.get h.obj o,Mp.get h.obj o' with
  | some (.row cs),some (.row cs')=>if cs.length=0∨cs'.length=0 then none else some false
  | _,_=>none
 | _,_=>none
def rsSz(sz:Nat):AV→Bool
 | .rs _ _ sz' _ _ _=>sz' == sz
 | _=>true
def externAV(h:Hp μ)(g:Nat)(args:List AV):Option AV:=match P.funcs[g]? with
 | none=>none
 | some fn => if fn.body.isSome || fn.name == "runtime.NumGoroutine" then none else
  if fn.name = "internal/bytealg.IndexByteString" then (if (Extern.allNextRows.lookup fn.origin).isSome then none else match args with
   | [.str s,.int .u8 c]=>some (.int .i64 (idxByte s (UInt8.ofNat c.toNat)))
   | _=>none)
  else if (fn.origin = "slices.overlaps" ∧ noRow fn.name = true) then (match args, fn.params[0]? with
   | [a,b],some t=>match P.underlying t with
    | some (.slice e)=>(tsize P e).bind fun sz=>if rsSz sz a=false then none else(overlapsAV h a b).map .bool
    | _=>none
   | _,_=>none)
  else none
inductive Fx where
 | func (f:Nat)
 | yield (o:Nat)
deriving DecidableEq
inductive Eff(μ:Type→Type) where
 | val (v:AV) (h:Hp μ)
 | skip (h:Hp μ)
 | enter (f:Fx) (args:List AV) (h:Hp μ)
def vals(h:Hp μ)(v:Option AV):Option (Eff μ):=v.map fun v=>.val v h
def valh(v:Option (AV × Hp μ)):Option (Eff μ):=v.map fun v=>.val v.1 v.2
def hasBody(f:Nat):Bool:=match P.funcs[f]? with
 | some fn => fn.body.isSome && fn.name != "runtime.NumGoroutine"
 | none=>false
def enterFn(h:Hp μ)(f:AV)(args:List AV):Option (Eff μ):=match f with
 | .fn (.func g) first cap=>if hasBody P g then some (.enter (.func g) (first++args++cap) h)else(externAV P h g (first++args++cap)).map fun v=>.val v h
 | .yl o=>some (.enter (.yield o) args h)
 | _=>none
def methodAV(t:TypeId)(v:AV)(name:String):Option (Nat × AV):=(P.info? t).bind fun i=>(i.methods.find? (·.name == name)).bind fun m=>
 if m.path.isEmpty then m.func.bind fun q=>match P.underlying t,q.2 with
  | some (.pointer _),true=>some (q.1,v)
  | some (.pointer _),false=>none
  | some _,false=>some (q.1,v)
  | _,_=>none
 else none
def invokeFn(h:Hp μ)(x:AV)(name:String)(args:List AV):Option (Eff μ):=match x with
 | .ifc t v=>(methodAV P t v name).bind fun q=>if hasBody P q.1 then some (.enter (.func q.1) (q.2::args) h)else none
 | _=>none
def builtinAV(h:Hp μ)(b:Builtin)(ts:Array TypeId)(args:List AV):Option (Eff μ):=
 match b,args with
 | .len,[.mp o]=>(ts[0]?).bind fun t=>vals h (lenMapAV P h t o)
 | .len,[x]=>(ts[0]?).bind fun t=>vals h (lenAV P t x)
 | .append,[s,x]=>(ts[0]?).bind fun t1=>(ts[1]?).bind fun t2=>valh (appendAV P h t1 t2 s x)
 | .min,l=>vals h (minmax false l)
 | .max,l=>vals h (minmax true l)
 | .cap,[x]=>(ts[0]?).bind fun t=>vals h (capAV P t x)
 | .copy,[d,s]=>(ts[0]?).bind fun t=>valh (copyAV P h t d s)
 | .clear,[d]=>(ts[0]?).bind fun t=>valh (clearAV P h t d)
 | .delete,[m,k]=>(ts[0]?).bind fun t=>valh (deleteAV P h t m k)
 | _,_=>none
def isPtrT(t:TypeId):Bool:=match P.underlying t with
 | some (.pointer e)=>(match tsize P e with | some (_+1)=>true | _=>false)
 | _=>false
def ptrEqAV(h:Hp μ)(o a p b:Nat):Option Bool:=if o=p then some (decide (a=b))else match Mp.get h.obj o,Mp.get h.obj p with
 | some (.row _),some (.row _)=>some false
 | _,_=>none
def binP(h:Hp μ)(op:BinOp)(t:TypeId)(x y:AV):Option AV:=match op,x,y with
 | .eql,.ptr o a,.ptr p b=>(ptrEqAV h o a p b).map .bool
 | .neq,.ptr o a,.ptr p b=>(ptrEqAV h o a p b).map fun q=>.bool (!q)
 | op,x,y=>binAV P op t x y
def binH(h:Hp μ)(op:BinOp)(t:TypeId)(x y:AV):Option AV:=if isPtrT P t=true then binP P h op t x y else binAV P op t x y
def opEff(ρ:Operand→AV)(h:Hp μ)(o:Oper):Option (Eff μ):=
 match o.op with
 | .move x | .assign x=>some (.val (ρ x) h)
 | .pick c a b=>match ρ c with
  | .bool q=>some (.val (if q then ρ a else ρ b) h)
  | _=>none
 | .alloc e=>(tzero P e).bind fun z=>if z.cells.all AV.isCell then valh (some (newRowAV h z.cells))else none
 | .box _ x=>if (ρ x).cells.all AV.isCell then valh (some (newRowAV h (ρ x).cells))else none
 | .build t parts=>vals h (buildAV P t (parts.toList.map fun p=>(p.1,ρ p.2)))
 | .buildSlice t len parts=>valh (buildSliceAV P h t len (parts.toList.map fun p=>(p.1,ρ p.2)))
 | .load t a=>vals h (loadAV P h t (ρ a))
 | .store t a x=>(storeAV P h t (ρ a) (ρ x)).map .skip
 | .nilCheck x=>match ρ x with
  | .ptr a b=>some (.val (.ptr a b) h)
  | .el a b=>some (.val (.el a b) h)
  | .fn (.func f) a b=>some (.val (.fn (.func f) a b) h)
  | .yl o=>some (.val (.yl o) h)
  | .ifc t v=>some (.val (.ifc t v) h)
  | _=>none
 | .binOp op t x y _=>vals h (binH P h op t (ρ x) (ρ y))
 | .unOp op _ x=>vals h (unAV op (ρ x))
 | .convert s d x=>valh (convAV P h s d (ρ x))
 | .makeInterface t x=>match P.underlying t with
  | some (.interface _)=>none
  | some _=>some (.val (.ifc t (ρ x)) h)
  | none=>none
 | .makeFunc f a b=>some (.val (.fn f (a.toList.map ρ) (b.toList.map ρ)) h)
 | .makeSlice t l c=>valh (makeSliceAV P h t (ρ l) (ρ c))
 | .slice t x l u m=>vals h (sliceAV P t (ρ x) (l.map ρ) (u.map ρ) (m.map ρ))
 | .fieldAddr s x f=>vals h (fieldAddrAV P s (ρ x) f)
 | .field s x f=>vals h (fieldAV P s (ρ x) f)
 | .indexAddr t x i=>vals h (indexAddrAV P t (ρ x) (ρ i))
 | .index t x i=>vals h (indexAV P t (ρ x) (ρ i))
 | .extract x i=>vals h (extractAV (ρ x) i)
 | .makeMap t r=>valh (makeMapAV P h t (r.map ρ))
 | .lookup t x i ok=>vals h (lookupAV P h t (ρ x) (ρ i) ok)
 | .mapUpdate t m k x=>(mapUpdateAV P h t (ρ m) (ρ k) (ρ x)).map .skip
 | .insert t m k x=>(mapUpdateAV P h t (ρ m) (ρ k) (ρ x)).map .skip
 | .range t x=>valh (rangeAV P h t (ρ x))
 | .next it s=>valh (nextAV h (ρ it) s)
 | .entry it=>vals h (entryAV h (ρ it))
 | .call c=>match c.callee with
  | .builtin b=>builtinAV P h b c.argTypes (c.args.toList.map ρ)
  | .value f=>enterFn P h (ρ f) (c.args.toList.map ρ)
  | .invoke r m=>invokeFn P h (ρ r) m (c.args.toList.map ρ)
 | _=>none
abbrev Cf(μ:Type→Type):Type:=Fx→List AV→Hp μ→Option (AV × Hp μ)
def put(st:St μ)(dst:Option Nat)(v:AV):Option (St μ):=match dst with
 | none=>some st
 | some d=>if d<st.nt then some { st with t:=Mp.set st.t d v }else none
def want(ops:Array Oper)(t:μ AV)(o:Oper):Option Bool:=match o.guard with
 | none=>some true
 | some (j,b)=>match (ops[j]?).bind (·.dst)with
  | none=>some false
  | some d=>match tget t d with
   | .bool q=>some (q == b)
   | .bad=>none
   | _=>some false
def stepOp(cf:Cf μ)(ops:Array Oper)(o:Oper)(st:St μ):Option (St μ):=
 match want ops st.t o with
 | none=>none
 | some false=>put st o.dst .undef
 | some true=>match opEff P (ev st.t) st.h o with
  | some (.val v h)=>put { st with h:=h } o.dst v
  | some (.skip h)=>put { st with h:=h } o.dst .undef
  | some (.enter f args h)=>match cf f args h with
   | some (r,h')=>put { st with h:=h' } o.dst r
   | none=>none
  | none=>none
def runOps(cf:Cf μ)(ops:Array Oper):List Oper→St μ→Option (St μ)
 | [],st=>some st
 | o::rest,st=>match stepOp P cf ops o st with
  | some st'=>runOps cf ops rest st'
  | none=>none
inductive Ex where
 | normal
 | exit (id:Nat)
 | goto (l:Nat)
 | ret
def behind(l:ALoop μ)(st:St μ):Option (Ex × St μ):=match l.pending with
 | none=>some (.normal,st)
 | some .ret=>some (.ret,st)
 | some (.exit i)=>some (.exit i,st)
 | some (.goto l)=>some (.goto l,st)
 | _=>none
def hasLoop(h:Hp μ)(o:Nat):Bool:=match Mp.get h.obj o with
 | some (.loop _)=>true
 | _=>false
def roOk(st:St μ):Bool:=match st.ro with | none=>true | some o=>hasLoop st.h o
def rangeB(st:St μ)(r:AV × Hp μ):Option (Ex × St μ):=match Mp.get r.2.obj st.h.no with
 | some (.loop l)=>if l.state=.busy then none else behind l { st with h:={ r.2 with obj:=Mp.set r.2.obj st.h.no (.loop { l with state:=.exhausted }) } }
 | _=>none
def laidF(ps:Array Nat)(a b:Code)(st:St μ):Hp μ:={ st.h with obj:=Mp.set st.h.obj st.h.no (.loop { state:=.ready,pending:=none,t:=st.t,nt:=st.nt,params:=ps,assign:=a,body:=b }),no:=st.h.no+1 }
def rangeE(f:Operand)(ps:Array Nat)(a b:Code)(st:St μ):Option (Nat × List AV × Hp μ):=match enterFn P (laidF ps a b st) (ev st.t f) [.yl st.h.no]with
 | some (.enter (.func g) args h1)=>some (g,args,h1)
 | _=>none
def rangeF(cf:Cf μ)(f:Operand)(ps:Array Nat)(a b:Code)(st:St μ):Option (Ex × St μ):=
 if roOk st=false then none else(rangeE P f ps a b st).bind fun q=>(cf (.func q.1) q.2.1 q.2.2).bind (rangeB st)
def execF(cf:Cf μ)(df:Array Oper→St μ→Option (St μ)):Nat→Option Code→Code→St μ→Option (Ex × St μ)
 | 0,_,_,_=>none
 | n+1,some b,c,st=>match execF cf df n none c st with
  | some (.goto l,st')=>match findLabel b l with
   | some rest=>execF cf df n (some b) rest st'
   | none=>some (.goto l,st')
  | r=>r
 | n+1,none,c,st=>match c with
  | .skip=>some (.normal,st)
  | .label _=>some (.normal,st)
  | .ret=>some (.ret,st)
  | .exit i=>some (.exit i,st)
  | .goto l=>some (.goto l,st)
  | .seq a b=>match execF cf df n none a st with
   | some (.normal,st')=>execF cf df n none b st'
   | r=>r
  | .cond x a b=>match ev st.t x with
   | .bool true=>execF cf df n none a st
   | .bool false=>execF cf df n none b st
   | _=>none
  | .block id b=>match execF cf df n none b st with
   | some (.exit i,st')=>if i=id then some (.normal,st')else some (.exit i,st')
   | r=>r
  | .loop b=>match execF cf df n none b st with
   | some (.normal,st')=>execF cf df n none (.loop b) st'
   | r=>r
  | .scope b=>execF cf df n (some b) b st
  | .rangeFunc f ps a b=>rangeF P cf f ps a b st
  | .region _ ops draw=>if draw then(df ops st).map fun s=>(.normal,s)else(runOps P cf ops ops.toList st).map fun s=>(.normal,s)
  | _=>none
def endR(o:Nat)(e:Ex)(st:St μ):Option (AV × Hp μ):=match Mp.get st.h.obj o with
 | some (.loop l)=>match e with
  | .normal=>some (.bool true,{ st.h with obj:=Mp.set st.h.obj o (.loop { l with state:=.ready,pending:=none }) })
  | .ret=>some (.bool false,{ st.h with obj:=Mp.set st.h.obj o (.loop { l with state:=.done,pending:=some .ret }) })
  | .exit i=>some (.bool false,{ st.h with obj:=Mp.set st.h.obj o (.loop { l with state:=.done,pending:=some (.exit i) }) })
  | .goto i=>some (.bool false,{ st.h with obj:=Mp.set st.h.obj o (.loop { l with state:=.done,pending:=some (.goto i) }) })
 | _=>none
def beginR(o:Nat)(st:St μ):Option (St μ):=match Mp.get st.h.obj o with
 | some (.loop l)=>if l.state=.ready then some { st with h:={ st.h with obj:=Mp.set st.h.obj o (.loop { l with state:=.busy }) } }else none
 | _=>none
def roundT(t:μ AV)(ps:List Nat)(args:List AV):μ AV:=(ps.zip args).foldl (fun t p=>Mp.set t p.1 p.2) t
def roundF(ex:Code→St μ→Option (Ex × St μ))(o:Nat)(args:List AV)(h:Hp μ):Option (AV × Hp μ):=match Mp.get h.obj o with
 | some (.loop l)=>
  if args.length=l.params.size∧l.params.toList.all (· < l.nt)=true then
   match ex l.assign ⟨roundT l.t l.params.toList args,l.nt,h,some o⟩with
   | some (.normal,s1)=>(beginR o s1).bind fun s2=>(ex l.body s2).bind fun r=>endR o r.1 r.2
   | _=>none
  else none
 | _=>none
def frz:Nat→AV→Hp μ→AV × Hp μ
 | 0,v,h=>(v,h)
 | d+1,v,h=>match v with
  | .rs o off sz ag n cap=>match Mp.get h.obj o,rsEls h o off sz ag n with
   | some (.row cs),some els=>if cs.length<off+cap*sz then(v,h)else(.sl h.ng 0 sz cap els,{ h with obj:=Mp.set h.obj o .dead,len:=Mp.set h.len h.ng els.length,ng:=h.ng+1 })
   | _,_=>(v,h)
  | .agg cs=>let r:=cs.foldl (fun(p:List AV × Hp μ) x=>let q:=frz d x p.2;(p.1++[q.1],q.2)) ([],h);(.agg r.1,r.2)
  | .tup cs=>let r:=cs.foldl (fun(p:List AV × Hp μ) x=>let q:=frz d x p.2;(p.1++[q.1],q.2)) ([],h);(.tup r.1,r.2)
  | v=>(v,h)
abbrev Tab:Type:=Nat→Option (TypeId→Bool)
def polIn(T:Tab)(f:Nat)(h:Hp μ):Hp μ:=match T f with
 | none=>h
 | some p=>{ h with pol:=p }
def polOut(T:Tab)(f:Nat)(h:Hp μ)(r:AV × Hp μ):AV × Hp μ:=match T f with
 | none=>r
 | some _=>let q:=frz 3 r.1 r.2;(q.1,{ q.2 with pol:=h.pol })
def argsT(args:List AV):μ AV:=(args.foldl (fun(p:μ AV × Nat) a=>(Mp.set p.1 p.2 a,p.2+1)) (Mp.emp,0)).1
def resultV(t:μ AV)(h:Hp μ):ResultVar→Option AV
 | .tmp i=>some (tget t i)
 | .cell a ty=>loadAV P h ty (tget t a)
def resultsAV(fn:Func)(t:μ AV)(h:Hp μ):Option AV:=
 match fn.results.toList with
 | [r]=>resultV P t h r
 | rs=>(rs.mapM (resultV P t h)).map .tup
end
end Go.Vn

/- The value machine: how its values and its heap stand to the model's world, and that what they say lasts. No condition. -/
namespace Go.Vn
structure Gh where
 obj:Nat→Option Nat
 own:Nat→Option Nat
 grp:Nat→Option Nat
 com:Nat→Nat
 lim:Nat→Nat
 blk:Nat→Option Nat
 len:Nat→Option Nat
 ng:Nat
def flat(els:List AV):List AV:=els.flatMap AV.cells
inductive VR(ψ:Gh)(w:World):AV→Value→Prop
 | undef:VR ψ w .undef Go.undef
 | bad (v:Value):VR ψ w .bad v
 | bool (b:Bool):VR ψ w (.bool b) (.bool b)
 | int (k:IntKind) (n:Int):VR ψ w (.int k n) (.int k n)
 | flt (k:FloatKind) (n:Nat):VR ψ w (.flt k n) (.float k n)
 | cpx (k:FloatKind) (a b:Nat):VR ψ w (.cpx k a b) (.complex k a b)
 | str (s:List UInt8):VR ψ w (.str s) (.string ⟨s.toArray⟩)
 | nilp:VR ψ w .nilp (.pointer none)
 | ptr (o off B:Nat) (ho:ψ.obj o=some B):VR ψ w (.ptr o off) (.pointer (some ⟨B,off,none⟩))
 | el (a:AV) (off g B p:Nat) (cs:Nat→Value) (hg:ψ.grp B=some g) (he:p+a.cells.length≤ψ.com B)
   (hc:∀i,i<a.cells.length→w.cell? ⟨B,p+i,none⟩=some (cs i)) (hv:∀i (h:i<a.cells.length),VR ψ w (a.cells[i]) (cs i)) :
   VR ψ w (.el a off) (.pointer (some ⟨B,p+off,none⟩))
 | nils:VR ψ w .nils (.slice none 0 0)
 | esl (a:Addr) (cap:Nat):VR ψ w (.esl cap) (.slice (some a) 0 cap)
 | sl (g off sz cap:Nat) (els:List AV) (B p:Nat) (cs:Nat→Value) (hgn:g<ψ.ng) (hg:els≠[]→ψ.grp B=some g) (he:els≠[]→p+els.length*sz≤ψ.com B) (hsz:∀e∈els,e.cells.length=sz) (hic:∀e∈els,e.cells.all AV.isCell=true)
   (hc:∀i,i<(flat els).length→w.cell? ⟨B,p+i,none⟩=some (cs i)) (hv:∀i (h:i<(flat els).length),VR ψ w ((flat els)[i]) (cs i))
   (hlen:∀m,ψ.len g=some m→off+els.length≤m) (hcap:els.length≤cap)
   (hfr:els.length<cap→∀m,ψ.len g=some m→off+els.length=m→ψ.blk g=some B∧p+els.length*sz=ψ.com B∧p+cap*sz≤ψ.lim B) :
   VR ψ w (.sl g off sz cap els) (.slice (some ⟨B,p,none⟩) els.length cap)
 | rs (o off sz:Nat) (ag:Bool) (n cap B:Nat) (ho:ψ.obj o=some B) (hn:n≤cap):VR ψ w (.rs o off sz ag n cap) (.slice (some ⟨B,off,none⟩) n cap)
 | nilm:VR ψ w .nilm (.map none)
 | mp (o B:Nat) (ho:ψ.obj o=some B):VR ψ w (.mp o) (.map (some B))
 | fn (f:Fn) (a b:List AV) (x y:Array Value) (hx:x.size=a.length) (hy:y.size=b.length) (ha:∀i (h:i<a.length),VR ψ w a[i] (x[i]'(hx▸h)))
   (hb:∀i (h:i<b.length),VR ψ w b[i] (y[i]'(hy▸h))):VR ψ w (.fn f a b) (.func f x y)
 | yl (o B:Nat) (ho:ψ.obj o=some B):VR ψ w (.yl o) (.func (.yield B) #[] #[])
 | nilf:VR ψ w .nilf .nilFunc
 | ifc (t:Nat) (a:AV) (v:Value) (h:VR ψ w a v):VR ψ w (.ifc t a) (.iface t v)
 | nili:VR ψ w .nili .nilIface
 | agg (a:List AV) (x:Array Value) (hx:x.size=a.length) (ha:∀i (h:i<a.length),VR ψ w a[i] (x[i]'(hx▸h))):VR ψ w (.agg a) (.agg x)
 | tup (a:List AV) (x:Array Value) (hx:x.size=a.length) (ha:∀i (h:i<a.length),VR ψ w a[i] (x[i]'(hx▸h))):VR ψ w (.tup a) (.tuple x)
def VRs(ψ:Gh)(w:World)(a:List AV)(x:Array Value):Prop:=∃hx:x.size=a.length,∀i (h:i<a.length),VR ψ w a[i] (x[i]'(hx▸h))
structure Ext0(ψ:Gh)(w:World)(ψ':Gh)(w':World):Prop where
 os:w'.os=w.os
 tape:w'.tape=w.tape
 output:w'.output=w.output
 size:w.heap.size≤w'.heap.size
 obj:∀o B,ψ.obj o=some B→ψ'.obj o=some B
 grp:∀B g,ψ.grp B=some g→ψ'.grp B=some g
 com:∀B g,ψ.grp B=some g→ψ.com B≤ψ'.com B
 cell:∀B g i,ψ.grp B=some g→i<ψ.com B→w'.cell? ⟨B,i,none⟩=w.cell? ⟨B,i,none⟩
 ng:ψ.ng≤ψ'.ng
 len:∀g,g<ψ.ng→(ψ'.len g=ψ.len g∧ψ'.blk g=ψ.blk g∧∀C,ψ.blk g=some C→ψ'.com C=ψ.com C∧ψ'.lim C=ψ.lim C)∨(∃m m',ψ.len g=some m∧ψ'.len g=some m'∧m<m')
 zero:∀B,ψ.grp B=some 0→w'.heap[B]? = w.heap[B]?
structure Ext(ψ:Gh)(w:World)(ψ':Gh)(w':World):Prop extends Ext0 ψ w ψ' w' where
 fr:∀B,B<w.heap.size→ψ.grp B=none→ψ.own B=none→w'.heap[B]? = w.heap[B]? ∧ ψ'.grp B=none∧ψ'.own B=none
theorem Ext.refl(ψ:Gh)(w:World):Ext ψ w ψ w:=
 ⟨⟨rfl,rfl,rfl,Nat.le_refl _,fun _ _ h=>h,fun _ _ h=>h,fun _ _ _=>Nat.le_refl _,fun _ _ _ _ _=>rfl,Nat.le_refl _,fun _ _=>.inl ⟨rfl,rfl,fun _ _=>⟨rfl,rfl⟩⟩,fun _ _=>rfl⟩,fun _ _ h1 h2=>⟨rfl,h1,h2⟩⟩
theorem Ext0.trans{ψ ψ' ψ'':Gh}{w w' w'':World}(h:Ext0 ψ w ψ' w')(k:Ext0 ψ' w' ψ'' w''):Ext0 ψ w ψ'' w'' where
 os:=k.os.trans h.os
 tape:=k.tape.trans h.tape
 output:=k.output.trans h.output
 size:=Nat.le_trans h.size k.size
 obj:=fun o B e=>k.obj o B (h.obj o B e)
 grp:=fun B g e=>k.grp B g (h.grp B g e)
 com:=fun B g e=>Nat.le_trans (h.com B g e) (k.com B g (h.grp B g e))
 cell:=fun B g i e hi=>(k.cell B g i (h.grp B g e) (Nat.lt_of_lt_of_le hi (h.com B g e))).trans (h.cell B g i e hi)
 ng:=Nat.le_trans h.ng k.ng
 len:=fun g e=>by
  rcases h.len g e with⟨a1,a2,a3⟩ | ⟨m,m',a1,a2,a3⟩
  ·rcases k.len g (Nat.lt_of_lt_of_le e h.ng)with⟨b1,b2,b3⟩ | ⟨n,n',b1,b2,b3⟩
   ·refine .inl ⟨b1.trans a1,b2.trans a2,fun C hC=>?_⟩
    obtain⟨c1,c2⟩:=a3 C hC
    obtain⟨d1,d2⟩:=b3 C (a2.trans hC)
    exact⟨d1.trans c1,d2.trans c2⟩
   ·exact .inr ⟨n,n',a1▸b1,b2,b3⟩
  ·rcases k.len g (Nat.lt_of_lt_of_le e h.ng)with⟨b1,b2,b3⟩ | ⟨n,n',b1,b2,b3⟩
   ·exact .inr ⟨m,m',a1,b1.trans a2,a3⟩
   ·refine .inr ⟨m,n',a1,b2,?_⟩
    rw[a2]at b1
    cases b1
    omega
 zero:=fun B e=>(k.zero B (h.grp B 0 e)).trans (h.zero B e)
theorem Ext.trans{ψ ψ' ψ'':Gh}{w w' w'':World}(h:Ext ψ w ψ' w')(k:Ext ψ' w' ψ'' w''):Ext ψ w ψ'' w'':=
 ⟨h.toExt0.trans k.toExt0,fun B e e2 e3=>let⟨a,b,c⟩:=h.fr B e e2 e3;let⟨a',b',c'⟩:=k.fr B (Nat.lt_of_lt_of_le e h.size) b c;⟨a'.trans a,b',c'⟩⟩
theorem VR.mono0{ψ ψ':Gh}{w w':World}(E:Ext0 ψ w ψ' w'){a:AV}{v:Value}(h:VR ψ w a v):VR ψ' w' a v:=by
 induction h with
 | undef=>exact .undef
 | bad v=>exact .bad v
 | bool b=>exact .bool b
 | int k n=>exact .int k n
 | flt k n=>exact .flt k n
 | cpx k a b=>exact .cpx k a b
 | str s=>exact .str s
 | nilp=>exact .nilp
 | ptr o off B ho=>exact .ptr o off B (E.obj o B ho)
 | el a off g B p cs hg he hc hv ih=>
  exact .el a off g B p cs (E.grp B g hg) (Nat.le_trans he (E.com B g hg)) (fun i hi=>(E.cell B g (p+i) hg (by omega)).trans (hc i hi)) (fun i hi=>ih i hi)
 | nils=>exact .nils
 | esl a cap=>exact .esl a cap
 | sl g off sz cap els B p cs hgn hg he hsz hic hc hv hlen hcap hfr ih=>
  have hfl:(flat els).length=els.length*sz:=by
   clear hc hv ih hlen hcap hfr he hic hg
   induction els with
   | nil=>simp[flat]
   | cons e els ih=>
    have h1:=hsz e (by simp)
    have h2:=ih (fun x hx=>hsz x (by simp[hx]))
    simp only[flat,List.flatMap_cons,List.length_append,List.length_cons]at *
    rw[h1,h2,Nat.succ_mul];omega
  have hl:=E.len g hgn
  have hne:∀i,i<(flat els).length→els≠[]:=fun i hi h=>by rw[h]at hi;simp[flat]at hi
  refine .sl g off sz cap els B p cs (Nat.lt_of_lt_of_le hgn E.ng) (fun h=>E.grp B g (hg h)) (fun h=>Nat.le_trans (he h) (E.com B g (hg h))) hsz hic
   (fun i hi=>(E.cell B g (p+i) (hg (hne i hi)) (by have:=he (hne i hi);omega)).trans (hc i hi)) (fun i hi=>ih i hi) ?_ hcap ?_
  ·intro m hm
   rcases hl with⟨a1,_,_⟩ | ⟨n,n',a1,a2,a3⟩
   ·exact hlen m (a1▸hm)
   ·have:=hlen n a1
    rw[a2]at hm
    cases hm
    omega
  ·intro h2 m hm he'
   rcases hl with⟨a1,a2,a3⟩ | ⟨n,n',a1,a2,a3⟩
   ·obtain⟨b1,b2,b3⟩:=hfr h2 m (a1▸hm) he'
    obtain⟨c1,c2⟩:=a3 B b1
    exact⟨a2.trans b1,by rw[c1];exact b2,by rw[c2];exact b3⟩
   ·have:=hlen n a1
    rw[a2]at hm
    cases hm
    omega
 | rs o off sz ag n cap B ho hn=>exact .rs o off sz ag n cap B (E.obj o B ho) hn
 | nilm=>exact .nilm
 | mp o B ho=>exact .mp o B (E.obj o B ho)
 | fn f a b x y hx hy ha hb iha ihb=>exact .fn f a b x y hx hy iha ihb
 | yl o B ho=>exact .yl o B (E.obj o B ho)
 | nilf=>exact .nilf
 | ifc t a v h ih=>exact .ifc t a v ih
 | nili=>exact .nili
 | agg a x hx ha ih=>exact .agg a x hx ih
 | tup a x hx ha ih=>exact .tup a x hx ih
theorem VR.mono{ψ ψ':Gh}{w w':World}(E:Ext ψ w ψ' w'){a:AV}{v:Value}(h:VR ψ w a v):VR ψ' w' a v:=h.mono0 E.toExt0
theorem VRs.mono{ψ ψ':Gh}{w w':World}(E:Ext ψ w ψ' w'){a:List AV}{x:Array Value}(h:VRs ψ w a x):VRs ψ' w' a x:=
 ⟨h.1,fun i hi=>(h.2 i hi).mono E⟩
theorem flat_length{els:List AV}{sz:Nat}(h:∀e∈els,e.cells.length=sz):(flat els).length=els.length*sz:=by
 induction els with
 | nil=>simp[flat]
 | cons e els ih=>
  have h1:=h e (by simp)
  have h2:=ih (fun x hx=>h x (by simp[hx]))
  simp only[flat,List.flatMap_cons,List.length_append,List.length_cons]at *
  rw[h1,h2,Nat.succ_mul];omega
def EntR(ψ:Gh)(w:World)(a:AV × AV × Nat)(e:MapEntry):Prop:=VR ψ w a.1 e.key∧VR ψ w a.2.1 e.val∧e.born=a.2.2
inductive ObjR{μ:Type→Type}[Mp μ](ψ:Gh)(w:World)(B:Nat):AObj μ→Prop
 | row (cs:List AV) (c:Array Value) (e:TypeId) (h1:w.heap[B]? = some (.cells c e (0,0))) (h2:cs.length≤c.size)
   (h4:∀i (h:i<cs.length),∃v,c[i]? = some v∧VR ψ w cs[i] v) (h5:∀x∈cs,x.isCell=true):ObjR ψ w B (.row cs)
 | mp (es:List (AV × AV × Nat)) (clock:Nat) (es':Array MapEntry) (h1:w.heap[B]? = some (.map es' clock)) (h2:es'.size=es.length) (h3:∀i (h:i<es.length),EntR ψ w es[i] (es'[i]'(h2▸h))):ObjR ψ w B (.mp es clock)
 | iter (m:Option Nat) (since:Nat) (seen:List Nat) (last:Nat) (m':Option Nat) (h1:w.heap[B]? = some (.mapIter m' since seen.toArray last)) (h2:∀o,m=some o→∃C,m'=some C∧ψ.obj o=some C) (h3:m=none→m'=none):ObjR ψ w B (.iter m since seen last)
 | siter (s:List UInt8) (pos:Nat) (h1:w.heap[B]? = some (.stringIter ⟨s.toArray⟩ pos)):ObjR ψ w B (.siter s pos)
 | loop (l:ALoop μ) (r:Loop) (h1:w.heap[B]? = some (.loop r)) (h2:r.state=l.state) (h3:r.pending=l.pending) (h4:r.params=l.params) (h5:r.assign=l.assign) (h6:r.body=l.body) (h7:l.nt≤r.tmps.size)
   (h8:∀i,VR ψ w (tget l.t i) (r.tmps.getD i Go.undef)):ObjR ψ w B (.loop l)
 | dead:ObjR ψ w B .dead
theorem ObjR.mono0{μ:Type→Type}[Mp μ]{ψ ψ':Gh}{w w':World}(E:Ext0 ψ w ψ' w'){B:Nat}{x:AObj μ}(hB:w'.heap[B]? = w.heap[B]?)(h:ObjR ψ w B x):ObjR ψ' w' B x:=by
 cases h with
 | row cs c e h1 h2 h4 h5=>exact .row cs c e (hB.trans h1) h2 (fun i hi=>let⟨v,a,b⟩:=h4 i hi;⟨v,a,b.mono0 E⟩) h5
 | mp es clock es' h1 h2 h3=>exact .mp es clock es' (hB.trans h1) h2 fun i hi=>let⟨a,b,c⟩:=h3 i hi;⟨a.mono0 E,b.mono0 E,c⟩
 | iter m since seen last m' h1 h2 h3=>exact .iter m since seen last m' (hB.trans h1) (fun o ho=>let⟨C,a,b⟩:=h2 o ho;⟨C,a,E.obj o C b⟩) h3
 | siter s pos h1=>exact .siter s pos (hB.trans h1)
 | loop l r h1 h2 h3 h4 h5 h6 h7 h8=>exact .loop l r (hB.trans h1) h2 h3 h4 h5 h6 h7 fun i=>(h8 i).mono0 E
 | dead=>exact .dead
theorem ObjR.mono{μ:Type→Type}[Mp μ]{ψ ψ':Gh}{w w':World}(E:Ext ψ w ψ' w'){B:Nat}{x:AObj μ}(hB:w'.heap[B]? = w.heap[B]?)(h:ObjR ψ w B x):ObjR ψ' w' B x:=h.mono0 E.toExt0 hB
def AObj.alive{μ:Type→Type}:AObj μ→Bool
 | .dead=>false
 | _=>true
structure Sim{μ:Type→Type}[Mp μ](ψ:Gh)(w:World)(h:Hp μ):Prop where
 obj:∀o x,Mp.get h.obj o=some x→x.alive=true→∃B,ψ.obj o=some B∧ψ.own B=some o∧ObjR ψ w B x
 own:∀B o,ψ.own B=some o→ψ.grp B=none∧B<w.heap.size
 no:∀o,h.no≤o→Mp.get h.obj o=none∧ψ.obj o=none
 grp:∀B g,ψ.grp B=some g→g<h.ng∧B<w.heap.size
 len:∀g,Mp.get h.len g=ψ.len g
 zero:ψ.len 0=none∧0<h.ng
 neq:ψ.ng=h.ng
 ng:∀g,h.ng≤g→ψ.len g=none∧ψ.blk g=none
 blk:∀g B,ψ.blk g=some B→ψ.grp B=some g∧g≠0∧∃c e fr,w.heap[B]? = some (.cells c e fr)∧ψ.lim B≤c.size∧(∀i,i<c.size→w.frozen? ⟨B,i,none⟩=false)∧(fr.1=fr.2∨c.size≤fr.1)
 gblk:∀B g,ψ.grp B=some g→g=0∨ψ.blk g=some B
 tape:h.tape=w.tape
 drawn:h.drawn=w.drawn
theorem Sim.row{μ:Type→Type}[Mp μ]{ψ:Gh}{w:World}{h:Hp μ}(S:Sim ψ w h)(o:Nat)(cs:List AV)(e:Mp.get h.obj o=some (.row cs)):∃B c e fr,ψ.obj o=some B∧ψ.own B=some o∧w.heap[B]? = some (.cells c e fr)∧cs.length≤c.size∧(∀i,i<c.size→w.frozen? ⟨B,i,none⟩=false) ∧
  (∀i (h:i<cs.length),∃v,c[i]? = some v∧VR ψ w cs[i] v)∧∀x∈cs,x.isCell=true:=by
 obtain⟨B,h1,h2,h3⟩:=S.obj o _ e rfl
 cases h3 with
 | row cs c e q1 q2 q4 q5=>exact⟨B,c,e,(0,0),h1,h2,q1,q2,fun i _=>by simp[World.frozen?,q1],q4,q5⟩
theorem Sim.rowp{μ:Type→Type}[Mp μ]{ψ:Gh}{w:World}{h:Hp μ}(S:Sim ψ w h)(o:Nat)(cs:List AV)(e:Mp.get h.obj o=some (.row cs)):∃B c t,ψ.obj o=some B∧ψ.own B=some o∧w.heap[B]? = some (.cells c t (0,0))∧cs.length≤c.size:=by
 obtain⟨B,h1,h2,h3⟩:=S.obj o _ e rfl
 cases h3 with
 | row cs c e q1 q2 q4 q5=>exact⟨B,c,e,h1,h2,q1,q2⟩
theorem Sim.loop{μ:Type→Type}[Mp μ]{ψ:Gh}{w:World}{h:Hp μ}(S:Sim ψ w h){o:Nat}{l:ALoop μ}(e:Mp.get h.obj o=some (.loop l)):∃B r,ψ.obj o=some B∧ψ.own B=some o∧w.heap[B]? = some (.loop r)∧r.state=l.state∧r.pending=l.pending ∧
  r.params=l.params∧r.assign=l.assign∧r.body=l.body∧l.nt≤r.tmps.size∧∀i,VR ψ w (tget l.t i) (r.tmps.getD i Go.undef):=by
 obtain⟨B,h1,h2,h3⟩:=S.obj o _ e rfl
 cases h3 with
 | loop l r q1 q2 q3 q4 q5 q6 q7 q8=>exact⟨B,r,h1,h2,q1,q2,q3,q4,q5,q6,q7,q8⟩
theorem Ext.drew(ψ:Gh)(w:World):Ext ψ w ψ w.drew:={ Ext.refl ψ w with }
theorem Sim.drew{μ:Type→Type}[Mp μ]{ψ:Gh}{w:World}{h:Hp μ}(S:Sim ψ w h):Sim ψ w.drew h.drew where
 obj:=fun o x e ha=>by
  obtain⟨B,h1,h2,h3⟩:=S.obj o x e ha
  exact⟨B,h1,h2,h3.mono (Ext.drew ψ w) rfl⟩
 own:=S.own
 no:=S.no
 grp:=S.grp
 len:=S.len
 zero:=S.zero
 neq:=S.neq
 ng:=S.ng
 blk:=S.blk
 gblk:=S.gblk
 tape:=S.tape
 drawn:=congrArg (· + 1) S.drawn
end Go.Vn

/- The value machine: what the model's small steps on memory come to, and the four ways in which the heap may change. No condition. -/
namespace Go.Vn
section
variable {P:Program} {w:World}
theorem underlying_run{t:TypeId}{d:TypeDesc}(h:P.underlying t=some d)(w:World):(underlying t).run P w=.ok d w:=by
 simp[underlying,h]
theorem typeInfo_run{t:TypeId}{i:TypeInfo}(h:P.info? t=some i)(w:World):(typeInfo t).run P w=.ok i w:=by
 simp[typeInfo,h]
theorem tsize_run{t:TypeId}{n:Nat}(h:tsize P t=some n)(w:World):(sizeOf t).run P w=.ok n w:=by
 unfold tsize at h
 cases hi:P.info? t with
 | none=>rw[hi]at h;cases h
 | some i=>rw[hi]at h;cases h;simp[sizeOf,typeInfo_run hi]
theorem tagg_run{t:TypeId}{b:Bool}(h:tagg P t=some b)(w:World):(isAgg t).run P w=.ok b w:=by
 unfold tagg at h
 cases hi:P.underlying t with
 | none=>rw[hi]at h;cases h
 | some d=>
  rw[hi]at h
  simp only[Option.map_some,Option.some.injEq]at h
  subst h
  simp only[isAgg,Sem.run_bind,underlying_run hi,Result.andThen_ok]
  cases d <;> rfl
theorem tzero_run{t:TypeId}{z:AV}(h:tzero P t=some z)(w:World):∃v,(zeroValue t).run P w=.ok v w∧z=ofVal v:=by
 unfold tzero at h
 cases hi:P.info? t with
 | none=>rw[hi]at h;cases h
 | some i=>
  rw[hi]at h
  cases hz:i.zero with
  | none=>simp[hz]at h
  | some v=>simp[hz]at h;exact⟨v,by simp[zeroValue,typeInfo_run hi,hz],h.symm⟩
theorem addr_add(B p i:Nat):(⟨B,p,none⟩:Addr).add i=⟨B,p+i,none⟩:=by
 unfold Addr.add
 by_cases h:i=0
 ·subst h;simp
 ·simp[h]
theorem cell_of{B:Nat}{c:Array Value}{e:TypeId}{fr:Nat × Nat}(h:w.heap[B]? = some (.cells c e fr))(i:Nat):w.cell? ⟨B,i,none⟩=c[i]? := by
 simp[World.cell?,h]
theorem frozen_of{B:Nat}{c:Array Value}{e:TypeId}{fr:Nat × Nat}(h:w.heap[B]? = some (.cells c e fr))(i:Nat):w.frozen? ⟨B,i,none⟩=(decide (fr.1≤i)&&decide (i<fr.2)):=by
 obtain⟨lo,hi⟩:=fr
 simp[World.frozen?,h]
theorem load_run{a:Addr}{v:Value}(h:w.cell? a=some v):(load a).run P w=.ok v w:=by simp[h]
theorem loadCellsFrom_run{B p:Nat}{cs:Nat→Value}:∀(n i:Nat) (acc:Array Value),(∀j,j<n→w.cell? ⟨B,p+(i+j),none⟩=some (cs (i+j))) →
  (loadCellsFrom ⟨B,p,none⟩ i n acc).run P w=.ok (acc++(List.range' i n).toArray.map cs) w
 | 0,i,acc,_=>by simp[loadCellsFrom]
 | n+1,i,acc,h=>by
  have h0:=h 0 (by omega)
  simp only[Nat.add_zero]at h0
  have ih:=loadCellsFrom_run n (i+1) (acc.push (cs i)) (fun j hj=>by
   have:=h (j+1) (by omega)
   rw[show i+1+j=i+(j+1)from by omega]
   exact this)
  simp only[loadCellsFrom,Sem.run_bind,addr_add,load_run h0,Result.andThen_ok,ih]
  congr 1
  apply Array.toList_inj.1
  simp[List.range'_succ]
theorem loadCells_run{B p n:Nat}{cs:Nat→Value}(h:∀j,j<n→w.cell? ⟨B,p+j,none⟩=some (cs j)) :
  (loadCells ⟨B,p,none⟩ n).run P w=.ok ((List.range n).toArray.map cs) w:=by
 have:=loadCellsFrom_run (P:=P) (w:=w) (B:=B) (p:=p) (cs:=cs) n 0 #[] (fun j hj=>by simpa using h j hj)
 rw[loadCells,this]
 simp[List.range_eq_range']
structure OnlyAt(B:Nat)(w w':World):Prop where
 os:w'.os=w.os
 tape:w'.tape=w.tape
 output:w'.output=w.output
 size:w'.heap.size=w.heap.size
 other:∀C,C≠B→w'.heap[C]? = w.heap[C]?
 drawn:w'.drawn=w.drawn
theorem OnlyAt.refl(B:Nat)(w:World):OnlyAt B w w:=⟨rfl,rfl,rfl,rfl,fun _ _=>rfl,rfl⟩
theorem OnlyAt.trans{B:Nat}{a b c:World}(h:OnlyAt B a b)(k:OnlyAt B b c):OnlyAt B a c:=
 ⟨k.os.trans h.os,k.tape.trans h.tape,k.output.trans h.output,k.size.trans h.size,fun C hC=>(k.other C hC).trans (h.other C hC),k.drawn.trans h.drawn⟩
theorem OnlyAt.setCell(w:World)(B i:Nat)(v:Value):OnlyAt B w (w.setCell ⟨B,i,none⟩ v):=
 ⟨rfl,rfl,rfl,by simp,fun C hC=>by simp only[World.setCell,Array.getElem?_modify];rw[if_neg (by omega)],rfl⟩
theorem setCell_at{B i:Nat}{c:Array Value}{e:TypeId}{fr:Nat × Nat}{v:Value}(h:w.heap[B]? = some (.cells c e fr)) :
  (w.setCell ⟨B,i,none⟩ v).heap[B]? = some (.cells (c.setIfInBounds i v) e fr):=by
 simp only[World.setCell,Array.getElem?_modify,if_pos,h]
 simp
theorem storeCells_run{B:Nat}{e:TypeId}{fr:Nat × Nat}:∀(vs:List Value) (p i:Nat) (w:World) (c:Array Value),w.heap[B]? = some (.cells c e fr)→p+i+vs.length≤c.size →
  (∀j,j<c.size→w.frozen? ⟨B,j,none⟩=false)→(∀v∈vs,v.oneCell'=true) →
  ∃w' c',(storeCells ⟨B,p,none⟩ vs i).run P w=.ok () w'∧w'.heap[B]? = some (.cells c' e fr)∧c'.size=c.size∧OnlyAt B w w' ∧
   ∀j,c'[j]? = if p+i≤j∧j<p+i+vs.length then vs[j-(p+i)]? else c[j]?
 | [],p,i,w,c,h,_,_,_=>⟨w,c,by simp[storeCells],h,rfl,.refl B w,fun j=>by rw[if_neg (by simp only[List.length_nil];omega)]⟩
 | v::vs,p,i,w,c,h,hs,hf,hv=>by
  simp only[List.length_cons]at hs
  have hcell:w.cell? ⟨B,p+i,none⟩=some c[p+i]:=by rw[cell_of h];simp[show p+i<c.size by omega]
  have hfz:w.frozen? ⟨B,p+i,none⟩=false:=hf _ (by omega)
  have hw1:=setCell_at (i:=p+i) (v:=v) h
  obtain⟨w',c',r1,r2,r3,r4,r5⟩:=storeCells_run vs p (i+1) (w.setCell ⟨B,p+i,none⟩ v) (c.setIfInBounds (p+i) v) hw1 (by simp;omega)
   (fun j hj=>by rw[frozen_of hw1];rw[←frozen_of h];exact hf j (by simpa using hj)) (fun x hx=>hv x (by simp[hx]))
  refine⟨w',c',?_,r2,by simpa using r3,(OnlyAt.setCell w B (p+i) v).trans r4,fun j=>?_⟩
  ·simp only[storeCells,Sem.run_bind,addr_add]
   rw[run_store _ _ _ _ _ (hv v (by simp)),hcell]
   simp only[hfz,Bool.false_eq_true,if_false,Result.andThen_ok]
   exact r1
  ·rw[r5 j]
   by_cases h1:p+(i+1)≤j∧j<p+(i+1)+vs.length
   ·rw[if_pos h1,if_pos (by simp;omega)]
    rw[show j-(p+i)=(j-(p+(i+1)))+1 from by omega]
    simp
   ·rw[if_neg h1]
    by_cases h2:j=p+i
    ·subst h2
     rw[if_pos (by simp)]
     simp[show p+i<c.size by omega]
    ·rw[if_neg (by simp only[List.length_cons];omega)]
     rw[Array.getElem?_setIfInBounds_ne (by omega)]
end
section
variable {μ:Type→Type} [Mp μ] {P:Program}
def CellsR(ψ:Gh)(w:World)(cs:List AV)(c:Array Value):Prop:=cs.length≤c.size∧∀i (h:i<cs.length),∃v,c[i]? = some v∧VR ψ w cs[i] v
theorem CellsR.mono{ψ ψ':Gh}{w w':World}(E:Ext ψ w ψ' w'){cs:List AV}{c:Array Value}(h:CellsR ψ w cs c):CellsR ψ' w' cs c:=
 ⟨h.1,fun i hi=>by obtain⟨v,a,b⟩:=h.2 i hi;exact⟨v,a,b.mono E⟩⟩
structure Pushed(w w':World)(o:Obj):Prop where
 os:w'.os=w.os
 tape:w'.tape=w.tape
 output:w'.output=w.output
 heap:w'.heap=w.heap.push o
 drawn:w'.drawn=w.drawn
theorem Pushed.old{w w':World}{o:Obj}(h:Pushed w w' o){C:Nat}(hC:C<w.heap.size):w'.heap[C]? = w.heap[C]? := by
 rw[h.heap,Array.getElem?_push,if_neg (by omega)]
theorem Pushed.new{w w':World}{o:Obj}(h:Pushed w w' o):w'.heap[w.heap.size]? = some o:=by
 rw[h.heap,Array.getElem?_push,if_pos rfl]
theorem Pushed.size{w w':World}{o:Obj}(h:Pushed w w' o):w'.heap.size=w.heap.size+1:=by rw[h.heap];simp
theorem Pushed.cell{w w':World}{o:Obj}(h:Pushed w w' o){C i:Nat}(hC:C<w.heap.size):w'.cell? ⟨C,i,none⟩=w.cell? ⟨C,i,none⟩:=by
 simp only[World.cell?,h.old hC]
theorem Pushed.frozen{w w':World}{o:Obj}(h:Pushed w w' o){C i:Nat}(hC:C<w.heap.size):w'.frozen? ⟨C,i,none⟩=w.frozen? ⟨C,i,none⟩:=by
 simp only[World.frozen?,h.old hC]
theorem Pushed.alloc(w:World)(o:Obj):Pushed w (w.alloc o) o:=⟨rfl,rfl,rfl,rfl,rfl⟩
variable {ψ:Gh} {w:World} {h:Hp μ}
theorem pushed_sound(S:Sim ψ w h){ob:Obj}{w':World}(hp:Pushed w w' ob):Ext ψ w ψ w'∧Sim ψ w' h∧ψ.grp w.heap.size=none∧ψ.own w.heap.size=none:=by
 have E:Ext ψ w ψ w':=⟨⟨hp.os,hp.tape,hp.output,by rw[hp.size];omega,fun _ _ e=>e,fun _ _ e=>e,fun _ _ _=>Nat.le_refl _,
  fun B g i hg _=>hp.cell (S.grp B g hg).2,Nat.le_refl _,fun _ _=>.inl ⟨rfl,rfl,fun _ _=>⟨rfl,rfl⟩⟩,fun B hB=>hp.old (S.grp B 0 hB).2⟩,fun B h1 h2 h3=>⟨hp.old h1,h2,h3⟩⟩
 refine⟨E,⟨fun o y ho ha=>?_,fun B o ho=>?_,S.no,fun B g hg=>⟨(S.grp B g hg).1,by have:=(S.grp B g hg).2;rw[hp.size];omega⟩,S.len,S.zero,S.neq,S.ng,fun g B hB=>?_,S.gblk,S.tape.trans hp.tape.symm,S.drawn.trans hp.drawn.symm⟩,?_,?_⟩
 ·obtain⟨B,h1,h2,h3⟩:=S.obj o y ho ha
  exact⟨B,h1,h2,h3.mono E (hp.old (S.own B o h2).2)⟩
 ·exact⟨(S.own B o ho).1,by have:=(S.own B o ho).2;rw[hp.size];omega⟩
 ·obtain⟨h1,h2,c',t,fr,h3,h4,h5⟩:=S.blk g B hB
  have hB':=(S.grp B g h1).2
  exact⟨h1,h2,c',t,fr,(hp.old hB').trans h3,h4,fun i hi=>(hp.frozen hB').trans (h5.1 i hi),h5.2⟩
 ·cases hg:ψ.grp w.heap.size with
  | none=>rfl
  | some g=>have:=(S.grp _ g hg).2;omega
 ·cases hg:ψ.own w.heap.size with
  | none=>rfl
  | some g=>have:=(S.own _ g hg).2;omega
theorem adoptObj_sound(S:Sim ψ w h){x:AObj μ}{B:Nat}(hB:B<w.heap.size)(hg0:ψ.grp B=none)(ho0:ψ.own B=none)(hx:∀ψ',Ext0 ψ w ψ' w→ObjR ψ' w B x) :
  ∃ψ',Ext0 ψ w ψ' w∧(∀C,C≠B→ψ'.grp C=ψ.grp C∧ψ'.own C=ψ.own C)∧Sim ψ' w { h with obj:=Mp.set h.obj h.no x,no:=h.no+1 }∧ψ'.obj h.no=some B:=by
 let ψ':Gh:={ ψ with obj:=fun o=>if o=h.no then some B else ψ.obj o,own:=fun C=>if C=B then some h.no else ψ.own C }
 have hno:∀o C,ψ.obj o=some C→o≠h.no:=fun o C e he=>by rw[he,(S.no h.no (Nat.le_refl _)).2]at e;cases e
 have E:Ext0 ψ w ψ' w:=⟨rfl,rfl,rfl,Nat.le_refl _,fun o C e=>by simp only[ψ'];rw[if_neg (hno o C e)];exact e,fun _ _ e=>e,fun _ _ _=>Nat.le_refl _,
  fun _ _ _ _ _=>rfl,Nat.le_refl _,fun _ _=>.inl ⟨rfl,rfl,fun _ _=>⟨rfl,rfl⟩⟩,fun _ _=>rfl⟩
 refine⟨ψ',E,fun C hC=>⟨rfl,by simp only[ψ'];rw[if_neg hC]⟩,?_,by simp[ψ']⟩
 refine⟨fun o y ho ha=>?_,fun C o ho=>?_,fun o ho=>?_,S.grp,S.len,S.zero,S.neq,S.ng,S.blk,S.gblk,S.tape,S.drawn⟩
 ·simp only[Mp.get_set]at ho
  by_cases ho':o=h.no
  ·rw[if_pos ho']at ho
   cases ho
   exact⟨B,by simp[ψ',ho'],by simp[ψ',ho'],hx ψ' E⟩
  ·rw[if_neg ho']at ho
   obtain⟨C,h1,h2,h3⟩:=S.obj o y ho ha
   have hCB:C≠B:=fun he=>by rw[he,ho0]at h2;cases h2
   exact⟨C,by simp[ψ',ho',h1],by simp only[ψ'];rw[if_neg hCB];exact h2,h3.mono0 E rfl⟩
 ·simp only[ψ']at ho ⊢
  by_cases hC:C=B
  ·rw[hC];exact⟨hg0,hB⟩
  ·rw[if_neg hC]at ho
   exact S.own C o ho
 ·simp only at ho ⊢
  rw[Mp.get_set,if_neg (by omega)]
  refine⟨(S.no o (by omega)).1,?_⟩
  simp only[ψ']
  rw[if_neg (by omega)]
  exact(S.no o (by omega)).2
theorem Pushed.ext{w':World}{ob:Obj}{ψ':Gh}(hp:Pushed w w' ob)(E0:Ext ψ w ψ w')(S:Sim ψ w h)(E:Ext0 ψ w' ψ' w')(hC:∀C,C≠w.heap.size→ψ'.grp C=ψ.grp C∧ψ'.own C=ψ.own C):Ext ψ w ψ' w':=
 ⟨E0.toExt0.trans E,fun B h1 h2 h3=>by
  obtain⟨a,b⟩:=hC B (by omega)
  exact⟨hp.old h1,a.trans h2,b.trans h3⟩⟩
theorem newObj_sound(S:Sim ψ w h){x:AObj μ}{ob:Obj}{w':World}(hp:Pushed w w' ob)(hx:∀ψ',Ext ψ w ψ' w'→ObjR ψ' w' w.heap.size x) :
  ∃ψ',Ext ψ w ψ' w'∧Sim ψ' w' { h with obj:=Mp.set h.obj h.no x,no:=h.no+1 }∧ψ'.obj h.no=some w.heap.size:=by
 obtain⟨E0,S0,g0,o0⟩:=pushed_sound S hp
 let ψ':Gh:={ ψ with obj:=fun o=>if o=h.no then some w.heap.size else ψ.obj o,own:=fun B=>if B=w.heap.size then some h.no else ψ.own B }
 have hno:∀o B,ψ.obj o=some B→o≠h.no:=fun o B e he=>by rw[he,(S.no h.no (Nat.le_refl _)).2]at e;cases e
 have E:Ext ψ w ψ' w':=⟨⟨hp.os,hp.tape,hp.output,by rw[hp.size];omega,fun o B e=>by simp only[ψ'];rw[if_neg (hno o B e)];exact e,fun _ _ e=>e,fun _ _ _=>Nat.le_refl _,
  fun B g i hg _=>hp.cell (S.grp B g hg).2,Nat.le_refl _,fun _ _=>.inl ⟨rfl,rfl,fun _ _=>⟨rfl,rfl⟩⟩,fun B hB=>hp.old (S.grp B 0 hB).2⟩,fun B h1 h2 h3=>⟨hp.old h1,h2,by simp only[ψ'];rw[if_neg (by omega)];exact h3⟩⟩
 refine⟨ψ',E,?_,by simp[ψ']⟩
 refine⟨fun o y ho ha=>?_,fun B o ho=>?_,fun o ho=>?_,fun B g hg=>⟨(S.grp B g hg).1,by have:=(S.grp B g hg).2;rw[hp.size];omega⟩,S.len,S.zero,S.neq,S.ng,fun g B hB=>?_,S.gblk,S.tape.trans hp.tape.symm,S.drawn.trans hp.drawn.symm⟩
 ·simp only[Mp.get_set]at ho
  by_cases ho':o=h.no
  ·rw[if_pos ho']at ho
   cases ho
   exact⟨w.heap.size,by simp[ψ',ho'],by simp[ψ',ho'],hx ψ' E⟩
  ·rw[if_neg ho']at ho
   obtain⟨B,h1,h2,h3⟩:=S.obj o y ho ha
   have hB:=(S.own B o h2).2
   exact⟨B,by simp[ψ',ho',h1],by simp only[ψ'];rw[if_neg (by omega)];exact h2,h3.mono E (hp.old hB)⟩
 ·simp only[ψ']at ho ⊢
  by_cases hB:B=w.heap.size
  ·refine⟨?_,by rw[hp.size];omega⟩
   cases hg:ψ.grp B with
   | none=>rfl
   | some g=>have:=(S.grp B g hg).2;omega
  ·rw[if_neg hB]at ho
   exact⟨(S.own B o ho).1,by have:=(S.own B o ho).2;rw[hp.size];omega⟩
 ·simp only at ho ⊢
  rw[Mp.get_set,if_neg (by omega)]
  refine⟨(S.no o (by omega)).1,?_⟩
  simp only[ψ']
  rw[if_neg (by omega)]
  exact(S.no o (by omega)).2
 ·obtain⟨h1,h2,c',t,fr,h3,h4,h5⟩:=S.blk g B hB
  have hB':=(S.grp B g h1).2
  exact⟨h1,h2,c',t,fr,(hp.old hB').trans h3,h4,fun i hi=>(hp.frozen hB').trans (h5.1 i hi),h5.2⟩
def CellsI(cs:List AV):Prop:=∀x∈cs,x.isCell=true
theorem newRow_sound(S:Sim ψ w h){cs:List AV}{c:Array Value}{e:TypeId}{w':World}(hc:CellsR ψ w cs c)(hi:CellsI cs)(hp:Pushed w w' (.cells c e)) :
  ∃ψ',Ext ψ w ψ' w'∧Sim ψ' w' (newRowAV h cs).2∧VR ψ' w' (newRowAV h cs).1 (.pointer (some ⟨w.heap.size,0,none⟩)):=by
 obtain⟨ψ',E,S',V⟩:=newObj_sound S (x:=.row cs) hp fun ψ' E=>.row cs c e hp.new hc.1 (hc.mono E).2 hi
 exact⟨ψ',E,S',.ptr h.no 0 w.heap.size V⟩
theorem newRs_sound(S:Sim ψ w h){sz cap:Nat}{ag:Bool}{zc els:List AV}{c:Array Value}{e:TypeId}{w':World}(hc:CellsR ψ w (flat els++(List.replicate (cap-els.length) zc).flatten) c)(hi:CellsI (flat els))(hz:CellsI zc)(hcap:els.length≤cap)(hp:Pushed w w' (.cells c e)) :
  ∃ψ',Ext ψ w ψ' w'∧Sim ψ' w' (newRs h sz ag zc cap els).2∧VR ψ' w' (newRs h sz ag zc cap els).1 (.slice (some ⟨w.heap.size,0,none⟩) els.length cap):=by
 have hI:CellsI (flat els++(List.replicate (cap-els.length) zc).flatten):=fun x hx=>by
  rcases List.mem_append.1 hx with hx | hx
  ·exact hi x hx
  ·obtain⟨l,hl,hx⟩:=List.mem_flatten.1 hx
   rw[List.eq_of_mem_replicate hl]at hx
   exact hz x hx
 obtain⟨ψ',E,S',V⟩:=newObj_sound S (x:=.row (flat els++(List.replicate (cap-els.length) zc).flatten)) hp fun ψ' E=>.row _ c e hp.new hc.1 (hc.mono E).2 hI
 exact⟨ψ',E,S',.rs h.no 0 sz ag els.length cap w.heap.size V hcap⟩
theorem newSl_sound(S:Sim ψ w h){sz cap:Nat}{els:List AV}{c:Array Value}{e:TypeId}{fr:Nat × Nat}{w':World}(hsz:∀x∈els,x.cells.length=sz)(hic:∀x∈els,x.cells.all AV.isCell=true)(hc:CellsR ψ w (flat els) c)
  (hcap:els.length≤cap) (hlim:cap*sz≤c.size) (hfr:fr.1=fr.2∨c.size≤fr.1) (hp:Pushed w w' (.cells c e fr)) :
  ∃ψ',Ext ψ w ψ' w'∧Sim ψ' w' (newSl h sz cap els).2∧VR ψ' w' (newSl h sz cap els).1 (.slice (some ⟨w.heap.size,0,none⟩) els.length cap):=by
 let B:=w.heap.size
 have hfl:=flat_length hsz
 let ψ':Gh:={ ψ with grp:=fun C=>if C=B then some h.ng else ψ.grp C,com:=fun C=>if C=B then els.length*sz else ψ.com C,lim:=fun C=>if C=B then c.size else ψ.lim C,blk:=fun g=>if g=h.ng then some B else ψ.blk g,len:=fun g=>if g=h.ng then some els.length else ψ.len g,ng:=h.ng+1 }
 have hne:∀C g,ψ.grp C=some g→C≠B:=fun C g e=>by have:=(S.grp C g e).2;simp only[B];omega
 have E:Ext ψ w ψ' w':=⟨⟨hp.os,hp.tape,hp.output,by rw[hp.size];omega,fun o C e=>e,fun C g e=>by simp only[ψ'];rw[if_neg (hne C g e)];exact e,
  fun C g e=>by simp only[ψ'];rw[if_neg (hne C g e)];exact Nat.le_refl _,
  fun C g i hg _=>hp.cell (S.grp C g hg).2,by simp only[ψ'];have:=S.neq;omega,fun g e=>.inl ⟨by simp only[ψ'];rw[if_neg (by have:=S.neq;omega)],by simp only[ψ'];rw[if_neg (by have:=S.neq;omega)],fun D hD=>by
   have h1:=(S.blk g D hD).1
   simp only[ψ'];rw[if_neg (hne D g h1),if_neg (hne D g h1)];exact⟨rfl,rfl⟩⟩,fun C hC=>hp.old (S.grp C 0 hC).2⟩,fun C h1 h2 h3=>⟨hp.old h1,by
   simp only[ψ'];rw[if_neg (by simp only[B];omega)];exact h2,h3⟩⟩
 have hfz:∀i,i<c.size→w'.frozen? ⟨B,i,none⟩=false:=fun i hi=>by
  rw[frozen_of hp.new]
  by_cases h1:fr.1≤i
  ·simp[h1];omega
  ·simp[h1]
 refine⟨ψ',E,?_,?_⟩
 ·refine⟨fun o y ho ha=>?_,fun C o ho=>?_,S.no,fun C g hg=>?_,fun g=>?_,?_,by simp[ψ',newSl],fun g hg=>?_,fun g C hC=>?_,fun C g hC=>?_,S.tape.trans hp.tape.symm,S.drawn.trans hp.drawn.symm⟩
  ·obtain⟨C,h1,h2,h3⟩:=S.obj o y ho ha
   exact⟨C,h1,h2,h3.mono E (hp.old (S.own C o h2).2)⟩
  ·have h1:=S.own C o ho
   refine⟨?_,by rw[hp.size];omega⟩
   simp only[ψ']
   rw[if_neg (by simp only[B];omega)]
   exact h1.1
  ·simp only[ψ']at hg
   by_cases hC:C=B
   ·rw[if_pos hC]at hg;cases hg
    exact⟨by simp[newSl],by rw[hp.size,hC];simp only[B];omega⟩
   ·rw[if_neg hC]at hg
    have:=S.grp C g hg
    exact⟨by simp only[newSl];omega,by rw[hp.size];omega⟩
  ·simp only[newSl,Mp.get_set,ψ']
   by_cases hg:g=h.ng
   ·simp[hg]
   ·simp[hg,S.len g]
  ·have:=S.zero
   refine⟨?_,by simp only[newSl];omega⟩
   simp only[ψ']
   rw[if_neg (by omega)]
   exact this.1
  ·simp only[newSl]at hg
   simp only[ψ']
   rw[if_neg (by omega),if_neg (by omega)]
   exact S.ng g (by omega)
  ·simp only[ψ']at hC ⊢
   by_cases hg:g=h.ng
   ·rw[if_pos hg]at hC;cases hC
    have:=S.zero
    exact⟨by simp[hg],by omega,c,e,fr,hp.new,by simp,hfz,hfr⟩
   ·rw[if_neg hg]at hC
    obtain⟨h1,h2,c',t,fr',h3,h4,h5⟩:=S.blk g C hC
    have hC':=(S.grp C g h1).2
    have hne':=hne C g h1
    refine⟨by rw[if_neg hne'];exact h1,h2,c',t,fr',(hp.old hC').trans h3,by rw[if_neg hne'];exact h4,fun i hi=>(hp.frozen hC').trans (h5.1 i hi),h5.2⟩
  ·simp only[ψ']at hC ⊢
   by_cases hCB:C=B
   ·rw[if_pos hCB]at hC;cases hC;exact .inr (by rw[if_pos rfl,hCB])
   ·rw[if_neg hCB]at hC
    rcases S.gblk C g hC with z | z
    ·exact .inl z
    ·have:=(S.grp C g hC).1;exact .inr (by rw[if_neg (by omega)];exact z)
 ·have hsl:∀i,i<(flat els).length→∃v,w'.cell? ⟨B,i,none⟩=some v∧∀hh:i<(flat els).length,VR ψ' w' ((flat els)[i]) v:=fun i hi=>by
   obtain⟨v,q1,q2⟩:=hc.2 i hi
   exact⟨v,by rw[cell_of hp.new];exact q1,fun _=>q2.mono E⟩
  refine .sl h.ng 0 sz cap els B 0 (fun i=>(w'.cell? ⟨B,i,none⟩).getD Go.undef) (by simp[ψ']) (fun _=>by simp[ψ']) (fun _=>by simp[ψ']) hsz hic (fun i hi=>?_) (fun i hi=>?_) (fun m hm=>?_) hcap (fun _ m hm hm'=>?_)
  ·obtain⟨v,q1,q2⟩:=hsl i hi
   simp[q1]
  ·obtain⟨v,q1,q2⟩:=hsl i hi
   simp only[q1,Option.getD_some]
   exact q2 hi
  ·simp only[ψ',if_pos]at hm;cases hm;omega
  ·simp only[ψ',if_pos]
   exact⟨trivial,by omega,by omega⟩
theorem flat_I{els:List AV}(h:∀e∈els,e.cells.all AV.isCell=true):CellsI (flat els):=fun a ha=>by
 simp only[flat,List.mem_flatMap]at ha
 obtain⟨e,he,ha⟩:=ha
 exact(List.all_eq_true.1 (h e he)) a ha
theorem newSeq_sound(S:Sim ψ w h){e' sz cap:Nat}{ag:Bool}{zc els:List AV}{c:Array Value}{e:TypeId}{w':World}(hsz:∀x∈els,x.cells.length=sz)(hic:∀x∈els,x.cells.all AV.isCell=true)
  (hz:CellsI zc) (hzl:zc.length=sz) (hc:CellsR ψ w (flat els++(List.replicate (cap-els.length) zc).flatten) c) (hcap:els.length≤cap) (hp:Pushed w w' (.cells c e)) :
  ∃ψ',Ext ψ w ψ' w'∧Sim ψ' w' (newSeq h e' sz ag zc cap els).2∧VR ψ' w' (newSeq h e' sz ag zc cap els).1 (.slice (some ⟨w.heap.size,0,none⟩) els.length cap):=by
 unfold newSeq
 split
 ·exact newRs_sound S hc (flat_I hic) hz hcap hp
 ·have hl:=hc.1
  simp only[List.length_append,List.length_flatten,List.map_replicate,hzl,flat_length hsz]at hl
  have hs:(List.replicate (cap-els.length) sz).sum=(cap-els.length)*sz:=by simp
  rw[hs,←Nat.add_mul,Nat.add_sub_cancel' hcap]at hl
  refine newSl_sound S hsz hic ⟨?_,fun i hi=>?_⟩ hcap hl (.inl rfl) hp
  ·have:=hc.1;rw[List.length_append]at this;omega
  ·obtain⟨v,q1,q2⟩:=hc.2 i (by rw[List.length_append];omega)
   refine⟨v,q1,?_⟩
   rw[List.getElem_append_left hi]at q2
   exact q2
theorem CellsR.append{a b:List AV}{x y:Array Value}(h:CellsR ψ w a x)(he:a.length=x.size)(k:CellsR ψ w b y):CellsR ψ w (a++b) (x++y):=by
 refine⟨by simp only[List.length_append,Array.size_append];have:=k.1;omega,fun i hi=>?_⟩
 rw[List.length_append]at hi
 by_cases h1:i<a.length
 ·obtain⟨v,q1,q2⟩:=h.2 i h1
  exact⟨v,by rw[Array.getElem?_append_left (by omega)];exact q1,by rw[List.getElem_append_left h1];exact q2⟩
 ·obtain⟨v,q1,q2⟩:=k.2 (i-a.length) (by omega)
  exact⟨v,by rw[Array.getElem?_append_right (by omega),←he];exact q1,by rw[List.getElem_append_right (by omega)];exact q2⟩
theorem flat_repl(n:Nat)(z:AV):flat (List.replicate n z)=(List.replicate n z.cells).flatten:=by
 simp only[flat,List.flatMap_replicate]
theorem adoptSl_sound(S:Sim ψ w h){sz cap:Nat}{els:List AV}{c:Array Value}{e:TypeId}{fr:Nat × Nat}{B:Nat}(hsz:∀x∈els,x.cells.length=sz)(hic:∀x∈els,x.cells.all AV.isCell=true)(hc:CellsR ψ w (flat els) c)
  (hcap:els.length≤cap) (hlim:cap*sz≤c.size) (hfr:fr.1=fr.2∨c.size≤fr.1) (hB:w.heap[B]? = some (.cells c e fr)) (hg0:ψ.grp B=none) (ho0:ψ.own B=none) :
  ∃ψ',Ext0 ψ w ψ' w∧(∀C,C≠B→ψ'.grp C=ψ.grp C∧ψ'.own C=ψ.own C)∧Sim ψ' w (newSl h sz cap els).2∧VR ψ' w (newSl h sz cap els).1 (.slice (some ⟨B,0,none⟩) els.length cap):=by
 have hfl:=flat_length hsz
 have hBs:=(Array.getElem?_eq_some_iff.1 hB).1
 let ψ':Gh:={ ψ with grp:=fun C=>if C=B then some h.ng else ψ.grp C,com:=fun C=>if C=B then els.length*sz else ψ.com C,lim:=fun C=>if C=B then c.size else ψ.lim C,blk:=fun g=>if g=h.ng then some B else ψ.blk g,len:=fun g=>if g=h.ng then some els.length else ψ.len g,ng:=h.ng+1 }
 have hne:∀C g,ψ.grp C=some g→C≠B:=fun C g e he=>by rw[he,hg0]at e;cases e
 have E:Ext0 ψ w ψ' w:=⟨rfl,rfl,rfl,Nat.le_refl _,fun o C e=>e,fun C g e=>by simp only[ψ'];rw[if_neg (hne C g e)];exact e,
  fun C g e=>by simp only[ψ'];rw[if_neg (hne C g e)];exact Nat.le_refl _,fun _ _ _ _ _=>rfl,by simp only[ψ'];have:=S.neq;omega,
  fun g e=>.inl ⟨by simp only[ψ'];rw[if_neg (by have:=S.neq;omega)],by simp only[ψ'];rw[if_neg (by have:=S.neq;omega)],fun D hD=>by
   have h1:=(S.blk g D hD).1
   simp only[ψ'];rw[if_neg (hne D g h1),if_neg (hne D g h1)];exact⟨rfl,rfl⟩⟩,fun _ _=>rfl⟩
 have hfz:∀i,i<c.size→w.frozen? ⟨B,i,none⟩=false:=fun i hi=>by
  rw[frozen_of hB]
  by_cases h1:fr.1≤i
  ·simp[h1];omega
  ·simp[h1]
 refine⟨ψ',E,fun C hC=>⟨by simp only[ψ'];rw[if_neg hC],rfl⟩,?_,?_⟩
 ·refine⟨fun o y ho ha=>?_,fun C o ho=>?_,S.no,fun C g hg=>?_,fun g=>?_,?_,by simp[ψ',newSl],fun g hg=>?_,fun g C hC=>?_,fun C g hC=>?_,S.tape,S.drawn⟩
  ·obtain⟨C,h1,h2,h3⟩:=S.obj o y ho ha
   exact⟨C,h1,h2,h3.mono0 E rfl⟩
  ·have h1:=S.own C o ho
   refine⟨?_,h1.2⟩
   simp only[ψ']
   rw[if_neg (fun he=>by rw[he,ho0]at ho;cases ho)]
   exact h1.1
  ·simp only[ψ']at hg
   by_cases hC:C=B
   ·rw[if_pos hC]at hg;cases hg
    exact⟨by simp[newSl],by rw[hC];exact hBs⟩
   ·rw[if_neg hC]at hg
    have:=S.grp C g hg
    exact⟨by simp only[newSl];omega,this.2⟩
  ·simp only[newSl,Mp.get_set,ψ']
   by_cases hg:g=h.ng
   ·simp[hg]
   ·simp[hg,S.len g]
  ·have:=S.zero
   refine⟨?_,by simp only[newSl];omega⟩
   simp only[ψ']
   rw[if_neg (by omega)]
   exact this.1
  ·simp only[newSl]at hg
   simp only[ψ']
   rw[if_neg (by omega),if_neg (by omega)]
   exact S.ng g (by omega)
  ·simp only[ψ']at hC ⊢
   by_cases hg:g=h.ng
   ·rw[if_pos hg]at hC;cases hC
    have:=S.zero
    exact⟨by simp[hg],by omega,c,e,fr,hB,by simp,hfz,hfr⟩
   ·rw[if_neg hg]at hC
    obtain⟨h1,h2,c',t,fr',h3,h4,h5⟩:=S.blk g C hC
    have hne':=hne C g h1
    exact⟨by rw[if_neg hne'];exact h1,h2,c',t,fr',h3,by rw[if_neg hne'];exact h4,h5⟩
  ·simp only[ψ']at hC ⊢
   by_cases hCB:C=B
   ·rw[if_pos hCB]at hC;cases hC;exact .inr (by rw[if_pos rfl,hCB])
   ·rw[if_neg hCB]at hC
    rcases S.gblk C g hC with z | z
    ·exact .inl z
    ·have:=(S.grp C g hC).1;exact .inr (by rw[if_neg (by omega)];exact z)
 ·have hsl:∀i,i<(flat els).length→∃v,w.cell? ⟨B,i,none⟩=some v∧∀hh:i<(flat els).length,VR ψ' w ((flat els)[i]) v:=fun i hi=>by
   obtain⟨v,q1,q2⟩:=hc.2 i hi
   exact⟨v,by rw[cell_of hB];exact q1,fun _=>q2.mono0 E⟩
  refine .sl h.ng 0 sz cap els B 0 (fun i=>(w.cell? ⟨B,i,none⟩).getD Go.undef) (by simp[ψ']) (fun _=>by simp[ψ']) (fun _=>by simp[ψ']) hsz hic (fun i hi=>?_) (fun i hi=>?_) (fun m hm=>?_) hcap (fun _ m hm hm'=>?_)
  ·obtain⟨v,q1,q2⟩:=hsl i hi
   simp[q1]
  ·obtain⟨v,q1,q2⟩:=hsl i hi
   simp only[q1,Option.getD_some]
   exact q2 hi
  ·simp only[ψ',if_pos]at hm;cases hm;omega
  ·simp only[ψ',if_pos]
   exact⟨trivial,by omega,by omega⟩
theorem adoptSeq_sound(S:Sim ψ w h){e' sz:Nat}{ag:Bool}{zc els:List AV}{c:Array Value}{e:TypeId}{B:Nat}(hsz:∀x∈els,x.cells.length=sz)(hic:∀x∈els,x.cells.all AV.isCell=true)
  (hc:CellsR ψ w (flat els) c) (hB:w.heap[B]? = some (.cells c e)) (hg0:ψ.grp B=none) (ho0:ψ.own B=none) :
  ∃ψ',Ext0 ψ w ψ' w∧(∀C,C≠B→ψ'.grp C=ψ.grp C∧ψ'.own C=ψ.own C)∧Sim ψ' w (newSeq h e' sz ag zc els.length els).2∧VR ψ' w (newSeq h e' sz ag zc els.length els).1 (.slice (some ⟨B,0,none⟩) els.length els.length):=by
 unfold newSeq
 split
 ·have hBs:=(Array.getElem?_eq_some_iff.1 hB).1
  have hnil:(List.replicate (els.length-els.length) zc).flatten=[]:=by simp
  obtain⟨ψ',E,hC,S',o1⟩:=adoptObj_sound S (x:=.row (els.flatMap AV.cells++(List.replicate (els.length-els.length) zc).flatten)) hBs hg0 ho0 fun ψ' E=>by
   rw[hnil,List.append_nil]
   exact .row _ c e hB hc.1 (fun i hi=>by obtain⟨v,a,b⟩:=hc.2 i hi;exact⟨v,a,b.mono0 E⟩) (flat_I hic)
  exact⟨ψ',E,hC,S',.rs h.no 0 sz ag els.length els.length B o1 (Nat.le_refl _)⟩
 ·refine adoptSl_sound S hsz hic hc (Nat.le_refl _) ?_ (.inl rfl) hB hg0 ho0
  have:=hc.1;rw[flat_length hsz]at this;exact this
end
end Go.Vn

/- The value machine: the other two ways in which the heap may change: a row is written; a slice grows. No condition. -/
namespace Go.Vn
section
variable {μ:Type→Type} [Mp μ] {P:Program}
variable {ψ:Gh} {w:World} {h:Hp μ}
theorem OnlyAt.cell{B C i:Nat}{w w':World}(h:OnlyAt B w w')(hC:C≠B):w'.cell? ⟨C,i,none⟩=w.cell? ⟨C,i,none⟩:=by simp only[World.cell?,h.other C hC]
theorem OnlyAt.frozen{B C i:Nat}{w w':World}(h:OnlyAt B w w')(hC:C≠B):w'.frozen? ⟨C,i,none⟩=w.frozen? ⟨C,i,none⟩:=by simp only[World.frozen?,h.other C hC]
theorem OnlyAt.setObj(w:World)(B:Nat)(o:Obj):OnlyAt B w { w with heap:=w.heap.setIfInBounds B o }:=
 ⟨rfl,rfl,rfl,by simp,fun C hC=>by simp only;rw[Array.getElem?_setIfInBounds_ne (fun h=>hC h.symm)],rfl⟩
theorem set_at{w:World}{B:Nat}{o o':Obj}(h:w.heap[B]? = some o'):({ w with heap:=w.heap.setIfInBounds B o }:World).heap[B]? = some o:=by
 simp only
 rw[Array.getElem?_setIfInBounds_self_of_lt (Array.getElem?_eq_some_iff.1 h).1]
theorem setObj_sound(S:Sim ψ w h){o:Nat}{x:AObj μ}{B:Nat}{w':World}(ho:ψ.obj o=some B)(hown:ψ.own B=some o)
  (hd:w.heap[B]? ≠ some (.deferred (some []))) (hat:OnlyAt B w w') (hx:Ext ψ w ψ w'→ObjR ψ w' B x) :
  Ext ψ w ψ w'∧Sim ψ w' { h with obj:=Mp.set h.obj o x }:=by
 have hg:ψ.grp B=none:=(S.own B o hown).1
 have hne:∀C g,ψ.grp C=some g→C≠B:=fun C g e he=>by rw[he,hg]at e;cases e
 have E:Ext ψ w ψ w':=⟨⟨hat.os,hat.tape,hat.output,by rw[hat.size];omega,fun _ _ e=>e,fun _ _ e=>e,fun _ _ _=>Nat.le_refl _,fun C g i e _=>hat.cell (hne C g e),Nat.le_refl _,
  fun _ _=>.inl ⟨rfl,rfl,fun _ _=>⟨rfl,rfl⟩⟩,fun C e=>hat.other C (hne C 0 e)⟩,fun C h1 h2 h3=>⟨hat.other C (fun he=>by rw[he,hown]at h3;cases h3),h2,h3⟩⟩
 refine⟨E,fun o' y ho' ha=>?_,fun C o' hC=>?_,fun o' ho'=>?_,fun C g hC=>?_,S.len,S.zero,S.neq,S.ng,fun g C hC=>?_,S.gblk,S.tape.trans hat.tape.symm,S.drawn.trans hat.drawn.symm⟩
 ·simp only[Mp.get_set]at ho'
  by_cases h1:o'=o
  ·rw[if_pos h1]at ho'
   cases ho'
   exact⟨B,h1▸ho,h1▸hown,hx E⟩
  ·rw[if_neg h1]at ho'
   obtain⟨C,q1,q2,q3⟩:=S.obj o' y ho' ha
   have hCB:C≠B:=fun he=>by rw[he,hown]at q2;cases q2;exact h1 rfl
   exact⟨C,q1,q2,q3.mono E (hat.other C hCB)⟩
 ·have:=S.own C o' hC
  exact⟨this.1,by rw[hat.size];exact this.2⟩
 ·rw[Mp.get_set]
  by_cases h1:o'=o
  ·have:=(S.no o' ho').2
   rw[h1,ho]at this;cases this
  ·rw[if_neg h1];exact S.no o' ho'
 ·have:=S.grp C g hC
  exact⟨this.1,by rw[hat.size];exact this.2⟩
 ·obtain⟨h1,h2,c1,t,fr1,h3,h4,h5⟩:=S.blk g C hC
  have hCB:=hne C g h1
  exact⟨h1,h2,c1,t,fr1,(hat.other C hCB).trans h3,h4,fun i hi=>(hat.frozen hCB).trans (h5.1 i hi),h5.2⟩
theorem setRow_sound(S:Sim ψ w h){o:Nat}{cs':List AV}{B:Nat}{c c':Array Value}{e:TypeId}{w':World}(ho:ψ.obj o=some B)(hown:ψ.own B=some o)
  (hB:w.heap[B]? = some (.cells c e)) (hB':w'.heap[B]? = some (.cells c' e)) (hs:c'.size=c.size) (hat:OnlyAt B w w') (hc:CellsR ψ w cs' c') (hi:CellsI cs') :
  Ext ψ w ψ w'∧Sim ψ w' { h with obj:=Mp.set h.obj o (.row cs') }:=
 setObj_sound S ho hown (by rw[hB];intro h;cases h) hat fun E=>.row cs' c' e hB' hc.1 (hc.mono E).2 hi
theorem flat_append(a b:List AV):flat (a++b)=flat a++flat b:=by simp[flat]
theorem growIn_sound(S:Sim ψ w h){g off sz p cap:Nat}{els new:List AV}{B:Nat}{c c':Array Value}{e:TypeId}{fr:Nat × Nat}{w':World}
  (hfrs:ψ.blk g=some B∧p+els.length*sz=ψ.com B∧p+cap*sz≤ψ.lim B) (hlen:Mp.get h.len g=some (off+els.length)) (hsz:∀x∈els++new,x.cells.length=sz) (hic:∀x∈els++new,x.cells.all AV.isCell=true) (hcap:els.length+new.length≤cap) (hn:0<new.length)
  (hB:w.heap[B]? = some (.cells c e fr)) (hf:∀i,i<c.size→w.frozen? ⟨B,i,none⟩=false) (hB':w'.heap[B]? = some (.cells c' e fr)) (hs:c'.size=c.size) (hat:OnlyAt B w w')
  (hold:∀i (hi:i<(flat els).length),∃v,w.cell? ⟨B,p+i,none⟩=some v∧VR ψ w ((flat els)[i]) v)
  (hnew:∀i (hi:i<(flat new).length),∃v,c'[p+els.length*sz+i]? = some v∧VR ψ w ((flat new)[i]) v) (hkeep:∀j,j<p+els.length*sz→c'[j]? = c[j]?) :
  ∃ψ',Ext ψ w ψ' w'∧Sim ψ' w' { h with len:=Mp.set h.len g (off+els.length+new.length) }∧VR ψ' w' (.sl g off sz cap (els++new)) (.slice (some ⟨B,p,none⟩) (els.length+new.length) cap):=by
 obtain⟨hb1,hb2,hb3⟩:=hfrs
 obtain⟨hgB,hg0,c0,e0,fr0,hh0,hlim,hf0⟩:=S.blk g B hb1
 rw[hB]at hh0;cases hh0
 have hfl1:=flat_length (fun x hx=>hsz x (List.mem_append_left _ hx):∀x∈els,x.cells.length=sz)
 have hfl2:=flat_length (fun x hx=>hsz x (List.mem_append_right _ hx):∀x∈new,x.cells.length=sz)
 have hmul:(els.length+new.length)*sz=els.length*sz+new.length*sz:=Nat.add_mul _ _ _
 have hle:(els.length+new.length)*sz≤cap*sz:=Nat.mul_le_mul_right _ hcap
 let ψ':Gh:={ ψ with com:=fun C=>if C=B then p+(els.length+new.length)*sz else ψ.com C,len:=fun g'=>if g'=g then some (off+els.length+new.length)else ψ.len g' }
 have hl:ψ.len g=some (off+els.length):=(S.len g).symm.trans hlen
 have E:Ext ψ w ψ' w':=by
  refine⟨⟨hat.os,hat.tape,hat.output,by rw[hat.size];omega,fun _ _ e=>e,fun _ _ e=>e,fun C g' _=>?_,fun C g' i hC hi=>?_,Nat.le_refl _,fun g' hC=>?_,fun C hC=>?_⟩,fun C hC hC2 hC3=>?_⟩
  ·simp only[ψ']
   by_cases h1:C=B
   ·rw[if_pos h1,h1,←hb2];omega
   ·rw[if_neg h1];exact Nat.le_refl _
  ·by_cases h1:C=B
   ·subst h1
    rw[cell_of hB,cell_of hB',hkeep i (by omega)]
   ·exact hat.cell h1
  ·by_cases h1:g'=g
   ·subst h1
    exact .inr ⟨off+els.length,off+els.length+new.length,hl,by simp[ψ'],by omega⟩
   ·refine .inl ⟨by simp[ψ',h1],rfl,fun D hD=>⟨?_,rfl⟩⟩
    have h2:=(S.blk g' D hD).1
    simp only[ψ']
    rw[if_neg]
    intro h3
    rw[h3,hgB]at h2;cases h2;exact h1 rfl
  ·refine hat.other C fun h1=>?_
   rw[h1,hgB]at hC;cases hC;exact hg0 rfl
  ·refine⟨hat.other C fun h1=>?_,hC2,hC3⟩
   rw[h1,hgB]at hC2;cases hC2
 have hcell:∀i (hi:i<(flat (els++new)).length),∃v,w'.cell? ⟨B,p+i,none⟩=some v∧VR ψ' w' ((flat (els++new))[i]) v:=fun i hi=>by
  have hi':i<(flat els).length+(flat new).length:=by rw[flat_append,List.length_append]at hi;exact hi
  by_cases h1:i<(flat els).length
  ·obtain⟨v,q1,q2⟩:=hold i h1
   refine⟨v,by rw[cell_of hB',hkeep (p+i) (by omega),←cell_of hB];exact q1,?_⟩
   have:(flat (els++new))[i]=(flat els)[i]:=by simp only[flat_append];exact List.getElem_append_left h1
   rw[this];exact q2.mono E
  ·obtain⟨v,q1,q2⟩:=hnew (i-(flat els).length) (by omega)
   refine⟨v,by rw[cell_of hB'];rw[show p+i=p+els.length*sz+(i-(flat els).length)from by omega];exact q1,?_⟩
   have:(flat (els++new))[i]=(flat new)[i-(flat els).length]'(by omega):=by simp only[flat_append];exact List.getElem_append_right (by omega)
   rw[this];exact q2.mono E
 refine⟨ψ',E,⟨fun o y ho ha=>?_,fun C o hC=>?_,S.no,fun C g' hC=>?_,fun g'=>?_,?_,S.neq,fun g' hg'=>?_,fun g' C hC=>?_,S.gblk,S.tape.trans hat.tape.symm,S.drawn.trans hat.drawn.symm⟩,?_⟩
 ·obtain⟨C,q1,q2,q3⟩:=S.obj o y ho ha
  have hCB:C≠B:=fun he=>by have:=(S.own C o q2).1;rw[he,hgB]at this;cases this
  exact⟨C,q1,q2,q3.mono E (hat.other C hCB)⟩
 ·have:=S.own C o hC
  exact⟨this.1,by rw[hat.size];exact this.2⟩
 ·have:=S.grp C g' hC
  exact⟨this.1,by rw[hat.size];exact this.2⟩
 ·simp only[Mp.get_set,ψ']
  by_cases h1:g'=g
  ·simp[h1]
  ·simp[h1,S.len g']
 ·refine⟨?_,S.zero.2⟩
  simp only[ψ']
  rw[if_neg (fun h=>hg0 h.symm)];exact S.zero.1
 ·have hlt:=(S.grp B g hgB).1
  simp only at hg'
  simp only[ψ']
  rw[if_neg (by omega)]
  exact S.ng g' hg'
 ·obtain⟨h1,h2,c1,t,fr1,h3,h4,h5⟩:=S.blk g' C hC
  by_cases hCB:C=B
  ·subst hCB
   rw[hB]at h3;cases h3
   exact⟨h1,h2,c',e,fr,hB',by simp only[ψ'];omega,fun i hi=>by rw[frozen_of hB',←frozen_of hB];exact hf i (by omega),by rw[hs];exact h5.2⟩
  ·exact⟨h1,h2,c1,t,fr1,(hat.other C hCB).trans h3,h4,fun i hi=>(hat.frozen hCB).trans (h5.1 i hi),h5.2⟩
 ·have hlen':(els++new).length=els.length+new.length:=by simp
  have:=VR.sl (ψ:=ψ') (w:=w') g off sz cap (els++new) B p (fun i=>(w'.cell? ⟨B,p+i,none⟩).getD Go.undef) (by have:=(S.grp B g hgB).1;have:=S.neq;simp only[ψ'];omega) (fun _=>hgB) (fun _=>by simp only[ψ',if_pos,hlen'];omega) hsz hic
   (fun i hi=>by obtain⟨v,q1,_⟩:=hcell i hi;rw[q1];rfl) (fun i hi=>by obtain⟨v,q1,q2⟩:=hcell i hi;simp only[q1,Option.getD_some];exact q2)
   (fun m hm=>by simp only[ψ',if_pos]at hm;cases hm;omega) (by omega) (fun _ m hm hm'=>⟨hb1,by simp only[ψ',if_pos,hlen'],hb3⟩)
  rw[hlen']at this
  exact this
end
end Go.Vn

/- The value machine: the operations that read values alone, one by one. No condition. -/
namespace Go.Vn
section
variable {μ:Type→Type} [Mp μ] {P:Program}
variable {ψ:Gh} {w:World} {h:Hp μ}
theorem VR_ofScalar(v:Value):VR ψ w (ofScalar v) v:=by
 cases v with
 | bool b=>exact .bool b
 | int k n=>exact .int k n
 | float k b=>exact .flt k b
 | complex k a b=>exact .cpx k a b
 | string s=>
  have:s=⟨s.data.toList.toArray⟩:=by simp
  simp only[ofScalar]
  conv=>rhs;rw[this]
  exact .str _
 | pointer a=>cases a with
  | none=>exact .nilp
  | some a=>exact .bad _
 | slice a l c=>
  cases a with
  | none=>
   cases l with
   | zero=>cases c with
    | zero=>exact .nils
    | succ c=>exact .bad _
   | succ l=>exact .bad _
  | some a=>exact .bad _
 | map r=>cases r with
  | none=>exact .nilm
  | some r=>exact .bad _
 | chan r=>exact .bad _
 | func f a b=>
  simp only[ofScalar]
  split
  ·rename_i hh
   exact .fn f [] [] a b hh.1 hh.2 (fun i hi=>absurd hi (by simp)) (fun i hi=>absurd hi (by simp))
  ·exact .bad _
 | nilFunc=>exact .nilf
 | iface t v=>exact .bad _
 | nilIface=>exact .nili
 | agg c=>exact .bad _
 | tuple c=>exact .bad _
theorem VR_ofVal(v:Value):VR ψ w (ofVal v) v:=by
 cases v with
 | agg cs=>exact .agg _ _ (by simp) (fun i hi=>by simp only[List.getElem_map,Array.getElem_toList];exact VR_ofScalar _)
 | iface t v=>exact .ifc t _ v (VR_ofScalar v)
 | _=>simp only[ofVal];exact VR_ofScalar _
theorem isCell_one{a:AV}{v:Value}(h:VR ψ w a v)(hc:a.isCell=true):v.oneCell'=true:=by
 cases h <;> first | rfl | (simp[AV.isCell]at hc)
theorem cells_rel{a:AV}{v:Value}(h:VR ψ w a v)(hc:a.cells.all AV.isCell=true):VRs ψ w a.cells v.cells∧∀x∈v.cells.toList,x.oneCell'=true:=by
 have key:VRs ψ w a.cells v.cells:=by
  cases h with
  | agg cs x hx ha=>exact⟨hx,ha⟩
  | undef=>simp[AV.cells,AV.isCell]at hc
  | bad=>simp[AV.cells,AV.isCell]at hc
  | tup=>simp[AV.cells,AV.isCell]at hc
  | bool b=>exact⟨rfl,fun i hi=>by simp[AV.cells]at hi;subst hi;exact .bool b⟩
  | int k n=>exact⟨rfl,fun i hi=>by simp[AV.cells]at hi;subst hi;exact .int k n⟩
  | flt k n=>exact⟨rfl,fun i hi=>by simp[AV.cells]at hi;subst hi;exact .flt k n⟩
  | cpx k a b=>exact⟨rfl,fun i hi=>by simp[AV.cells]at hi;subst hi;exact .cpx k a b⟩
  | str s=>exact⟨rfl,fun i hi=>by simp[AV.cells]at hi;subst hi;exact .str s⟩
  | nilp=>exact⟨rfl,fun i hi=>by simp[AV.cells]at hi;subst hi;exact .nilp⟩
  | ptr o off B ho=>exact⟨rfl,fun i hi=>by simp[AV.cells]at hi;subst hi;exact .ptr o off B ho⟩
  | el a off g B p cs hg he hcc hv=>exact⟨rfl,fun i hi=>by simp[AV.cells]at hi;subst hi;exact .el a off g B p cs hg he hcc hv⟩
  | nils=>exact⟨rfl,fun i hi=>by simp[AV.cells]at hi;subst hi;exact .nils⟩
  | esl a cap=>exact⟨rfl,fun i hi=>by simp[AV.cells]at hi;subst hi;exact .esl a cap⟩
  | sl g off sz cap els B p cs hgn hg he hsz hic hcc hv hlen hcap hfr=>exact⟨rfl,fun i hi=>by simp[AV.cells]at hi;subst hi;exact .sl g off sz cap els B p cs hgn hg he hsz hic hcc hv hlen hcap hfr⟩
  | rs o off sz ag n cap B ho hn=>exact⟨rfl,fun i hi=>by simp[AV.cells]at hi;subst hi;exact .rs o off sz ag n cap B ho hn⟩
  | yl o B ho=>exact⟨rfl,fun i hi=>by simp[AV.cells]at hi;subst hi;exact .yl o B ho⟩
  | nilm=>exact⟨rfl,fun i hi=>by simp[AV.cells]at hi;subst hi;exact .nilm⟩
  | mp o B ho=>exact⟨rfl,fun i hi=>by simp[AV.cells]at hi;subst hi;exact .mp o B ho⟩
  | fn f a b x y hx hy ha hb=>exact⟨rfl,fun i hi=>by simp[AV.cells]at hi;subst hi;exact .fn f a b x y hx hy ha hb⟩
  | nilf=>exact⟨rfl,fun i hi=>by simp[AV.cells]at hi;subst hi;exact .nilf⟩
  | ifc t a v h=>exact⟨rfl,fun i hi=>by simp[AV.cells]at hi;subst hi;exact .ifc t a v h⟩
  | nili=>exact⟨rfl,fun i hi=>by simp[AV.cells]at hi;subst hi;exact .nili⟩
 refine⟨key,fun x hx=>?_⟩
 obtain⟨hs,hk⟩:=key
 obtain⟨i,hi,rfl⟩:=List.getElem_of_mem hx
 have hi':i<a.cells.length:=by rw[←hs];simpa using hi
 have:=hk i hi'
 exact isCell_one (by simpa using this) (by rw[List.all_eq_true]at hc;exact hc _ (List.getElem_mem hi'))
theorem loadVar_sound{t:TypeId}{ag:Bool}{n:Nat}(hag:tagg P t=some ag)(hn:tsize P t=some n){cs:List AV}{B p off:Nat}{f:Nat→Value}
  (hc:∀i,i<cs.length→w.cell? ⟨B,p+i,none⟩=some (f i)) (hv:∀i (hi:i<cs.length),VR ψ w cs[i] (f i)) {r:AV} (hr:partAV ag n cs off=some r) :
  ∃u,(loadVar t ⟨B,p+off,none⟩).run P w=.ok u w∧VR ψ w r u:=by
 unfold partAV at hr
 cases ag with
 | true=>
  simp only[if_true]at hr
  by_cases hle:off+n≤cs.length
  ·rw[if_pos hle]at hr
   cases hr
   have hl:=loadCells_run (P:=P) (w:=w) (B:=B) (p:=p+off) (n:=n) (cs:=fun i=>f (off+i)) (fun j hj=>by
    rw[show p+off+j=p+(off+j)from by omega];exact hc _ (by omega))
   refine⟨.agg ((List.range n).toArray.map fun i=>f (off+i)),?_,?_⟩
   ·simp only[loadVar,Sem.run_bind,tagg_run hag,Result.andThen_ok,if_true,tsize_run hn,hl,Sem.run_pure]
   ·refine .agg _ _ (by simp;omega) (fun i hi=>?_)
    have hi':i<n:=by simp at hi;omega
    simp only[List.getElem_take,List.getElem_drop]
    have e:(((List.range n).toArray.map fun i=>f (off+i))[i]'(by simp;omega))=f (off+i):=by simp
    rw[e]
    exact hv (off+i) (by omega)
  ·rw[if_neg hle]at hr;cases hr
 | false=>
  simp only[Bool.false_eq_true,if_false]at hr
  have hi:off<cs.length:=by
   rcases Nat.lt_or_ge off cs.length with h1 | h1
   ·exact h1
   ·rw[List.getElem?_eq_none h1]at hr;cases hr
  rw[List.getElem?_eq_getElem hi]at hr
  cases hr
  refine⟨f off,?_,hv off hi⟩
  simp only[loadVar,Sem.run_bind,tagg_run hag,Result.andThen_ok,Bool.false_eq_true,if_false,load_run (hc off hi)]
theorem part_sound{t:TypeId}{ag:Bool}{n:Nat}(hag:tagg P t=some ag)(hn:tsize P t=some n){cs:List AV}{x:Array Value}{off:Nat}(hx:VRs ψ w cs x){r:AV}(hr:partAV ag n cs off=some r) :
  ∃u,(part t x off).run P w=.ok u w∧VR ψ w r u:=by
 obtain⟨hs,hv⟩:=hx
 unfold partAV at hr
 cases ag with
 | true=>
  simp only[if_true]at hr
  by_cases hle:off+n≤cs.length
  ·rw[if_pos hle]at hr
   cases hr
   refine⟨.agg (x.extract off (off+n)),?_,?_⟩
   ·simp only[part,Sem.run_bind,tagg_run hag,Result.andThen_ok,if_true,tsize_run hn,Sem.run_pure]
   ·refine .agg _ _ (by simp;omega) (fun i hi=>?_)
    simp at hi
    simp only[List.getElem_take,List.getElem_drop,Array.getElem_extract]
    exact hv (off+i) (by omega)
  ·rw[if_neg hle]at hr;cases hr
 | false=>
  simp only[Bool.false_eq_true,if_false]at hr
  have hi:off<cs.length:=by
   rcases Nat.lt_or_ge off cs.length with h1 | h1
   ·exact h1
   ·rw[List.getElem?_eq_none h1]at hr;cases hr
  rw[List.getElem?_eq_getElem hi]at hr
  cases hr
  refine⟨x[off]'(by omega),?_,hv off hi⟩
  simp only[part,Sem.run_bind,tagg_run hag,Result.andThen_ok,Bool.false_eq_true,if_false]
  rw[Array.getElem?_eq_getElem (by omega)]
  rfl
theorem load_sound(S:Sim ψ w h){t:TypeId}{a r:AV}{v:Value}(hl:loadAV P h t a=some r)(hv:VR ψ w a v):∃u,(Instr.loadAt t v).run P w=.ok u w∧VR ψ w r u:=by
 unfold loadAV at hl
 cases hag:tagg P t with
 | none=>rw[hag]at hl;cases hl
 | some ag=>
  cases hn:tsize P t with
  | none=>rw[hag,hn]at hl;cases hl
  | some n=>
   rw[hag,hn]at hl
   simp only[Option.bind_some]at hl
   cases hv with
   | ptr o off B ho=>
    simp only at hl
    cases hro:Mp.get h.obj o with
    | none=>rw[hro]at hl;cases hl
    | some ob=>
     rw[hro]at hl
     cases ob with
     | mp | iter | siter | loop | dead=>cases hl
     | row cs=>
      obtain⟨B',c,e,fr,h1,h2,h3,h4,h5,h6,_⟩:=S.row o cs hro
      rw[h1]at ho;cases ho
      have:=loadVar_sound (P:=P) (ψ:=ψ) (w:=w) hag hn (cs:=cs) (B:=B) (p:=0) (off:=off) (f:=fun i=>(c[i]?).getD Go.undef)
       (fun i hi=>by obtain⟨v,q1,_⟩:=h6 i hi;rw[Nat.zero_add,cell_of h3,q1];rfl) (fun i hi=>by obtain⟨v,q1,q2⟩:=h6 i hi;rw[q1];exact q2) hl
      obtain⟨u,r1,r2⟩:=this
      refine⟨u,?_,r2⟩
      simp only[Instr.loadAt,Instr.sureAddr,Sem.run_bind,Sem.run_pure,Result.andThen_ok]
      rw[Nat.zero_add]at r1;exact r1
   | el a off g B p cs hg he hc hvv=>
    obtain⟨u,r1,r2⟩:=loadVar_sound (P:=P) (ψ:=ψ) (w:=w) hag hn hc hvv hl
    refine⟨u,?_,r2⟩
    simp only[Instr.loadAt,Instr.sureAddr,Sem.run_bind,Sem.run_pure,Result.andThen_ok]
    exact r1
   | _=>cases hl
theorem field_sound{s:TypeId}{x r:AV}{v:Value}{f:Nat}(hl:fieldAV P s x f=some r)(hv:VR ψ w x v):∃u,(Instr.field s v f).run P w=.ok u w∧VR ψ w r u:=by
 unfold fieldAV fieldPlaceAV at hl
 cases hu:P.underlying s with
 | none=>rw[hu]at hl;cases hl
 | some d=>
  rw[hu]at hl
  cases d <;> try (cases hl;done)
  rename_i fields
  simp only at hl
  cases hf:fields[f]? with
  | none=>rw[hf]at hl;cases hl
  | some fd=>
   rw[hf]at hl
   simp only[Option.map_some,Option.bind_some]at hl
   cases hag:tagg P fd.type with
   | none=>rw[hag]at hl;cases hl
   | some ag=>
    cases hn:tsize P fd.type with
    | none=>rw[hag,hn]at hl;cases hl
    | some n=>
     rw[hag,hn]at hl
     simp only[Option.bind_some]at hl
     cases hv with
     | agg cs y hy ha=>
      obtain⟨u,r1,r2⟩:=part_sound (P:=P) (ψ:=ψ) (w:=w) hag hn ⟨hy,ha⟩ hl
      exact⟨u,by simp only[Instr.field,Sem.run_bind,underlying_run hu,Result.andThen_ok,hf,asAgg,Sem.run_pure];exact r1,r2⟩
     | _=>cases hl
theorem fieldAddr_sound{s:TypeId}{x r:AV}{v:Value}{f:Nat}(hl:fieldAddrAV P s x f=some r)(hv:VR ψ w x v):∃u,(Instr.fieldAt s v f).run P w=.ok u w∧VR ψ w r u:=by
 unfold fieldAddrAV fieldPlaceAV at hl
 cases hu:P.underlying s with
 | none=>rw[hu]at hl;cases hl
 | some d=>
  rw[hu]at hl
  cases d <;> try (cases hl;done)
  rename_i fields
  simp only at hl
  cases hf:fields[f]? with
  | none=>rw[hf]at hl;cases hl
  | some fd=>
   rw[hf]at hl
   simp only[Option.map_some,Option.bind_some]at hl
   cases hn:tsize P fd.type with
   | none=>rw[hn]at hl;cases hl
   | some n=>
    rw[hn]at hl
    simp only[Option.bind_some]at hl
    by_cases h0:n=0
    ·rw[if_pos h0]at hl;cases hl
    ·rw[if_neg h0]at hl
     have hrun:∀B off,(Instr.fieldAt s (.pointer (some ⟨B,off,none⟩)) f).run P w=.ok (.pointer (some ⟨B,off+fd.offset,none⟩)) w:=fun B off=>by
      simp only[Instr.fieldAt,Sem.run_bind,underlying_run hu,Result.andThen_ok,hf,Instr.sureAddr,Sem.run_pure,fieldPlace,tsize_run hn,if_neg h0,addr_add]
     cases hv with
     | ptr o off B ho=>cases hl;exact⟨_,hrun B off,.ptr o _ B ho⟩
     | el a off g B p cs hg he hc hvv=>cases hl;exact⟨_,hrun B (p+off),by rw[Nat.add_assoc];exact .el a _ g B p cs hg he hc hvv⟩
     | _=>cases hl
theorem flat_getElem{els:List AV}{sz:Nat}(h:∀e∈els,e.cells.length=sz):∀(j:Nat) (hj:j<els.length) (i:Nat) (hi:i<sz),∃h1:j*sz+i<(flat els).length,(flat els)[j*sz+i]=(els[j]).cells[i]'(by rw[h _ (List.getElem_mem hj)];exact hi):=by
 induction els with
 | nil=>intro j hj;simp at hj
 | cons e els ih=>
  intro j hj i hi
  have he:=h e (by simp)
  have hfl:(flat (e::els))=e.cells++flat els:=by simp[flat]
  cases j with
  | zero=>
   refine⟨by rw[hfl,List.length_append];omega,?_⟩
   simp only[hfl,Nat.zero_mul,Nat.zero_add,List.getElem_cons_zero]
   exact List.getElem_append_left _
  | succ j=>
   obtain⟨h1,h2⟩:=ih (fun x hx=>h x (by simp[hx])) j (by simpa using hj) i hi
   have e1:(j+1)*sz+i=e.cells.length+(j*sz+i):=by rw[he,Nat.succ_mul];omega
   refine⟨by rw[hfl,List.length_append];omega,?_⟩
   simp only[hfl,e1,List.getElem_cons_succ]
   rw[List.getElem_append_right (by omega)]
   simp only[Nat.add_sub_cancel_left]
   exact h2
theorem indexAddr_sound{t:TypeId}{x ix r:AV}{v vi:Value}(hl:indexAddrAV P t x ix=some r)(hv:VR ψ w x v)(hi:VR ψ w ix vi):∃u,(Instr.indexAt t v vi).run P w=.ok u w∧VR ψ w r u:=by
 unfold indexAddrAV at hl
 cases hi with
 | int k i=>
  simp only at hl
  cases hu:P.underlying t with
  | none=>rw[hu]at hl;cases hl
  | some d=>
   rw[hu]at hl
   cases hv with
   | sl g off sz cap els B p cs hgn hg he hsz hic hc hvv hlen hcap hfr=>
    cases d <;> try (cases hl;done)
    rename_i e
    simp only at hl
    by_cases h0:0≤i∧tsize P e=some sz
    ·rw[if_pos h0]at hl
     obtain⟨h0,hn⟩:=h0
     rcases Nat.lt_or_ge i.toNat els.length with hlt | hge
     ·rw[List.getElem?_eq_getElem hlt]at hl
      cases hl
      have hii:i<els.length:=by omega
      refine⟨.pointer (some ⟨B,p+i.toNat*sz,none⟩),?_,?_⟩
      ·simp only[Instr.indexAt,asIntOf,Sem.run_bind,Sem.run_pure,Result.andThen_ok,underlying_run hu,h0,hii,and_self,if_true,tsize_run hn,addr_add]
      ·have hsz':=hsz _ (List.getElem_mem hlt)
       have hmul:i.toNat*sz+sz≤els.length*sz:=by rw[←Nat.succ_mul];exact Nat.mul_le_mul_right _ hlt
       have hne:els≠[]:=fun h=>by rw[h]at hlt;simp at hlt
       refine .el _ 0 g B (p+i.toNat*sz) (fun j=>cs (i.toNat*sz+j)) (hg hne) (by have:=he hne;omega) (fun j hj=>?_) (fun j hj=>?_)
       ·obtain⟨h1,_⟩:=flat_getElem hsz i.toNat hlt j (by omega)
        rw[Nat.add_assoc];exact hc _ h1
       ·obtain⟨h1,h2⟩:=flat_getElem hsz i.toNat hlt j (by omega)
        rw[←h2];exact hvv _ h1
     ·rw[List.getElem?_eq_none hge]at hl;cases hl
    ·rw[if_neg h0]at hl;cases hl
   | rs o off sz ag n cap B ho hnc=>
    cases d <;> try (cases hl;done)
    rename_i e
    simp only at hl
    by_cases h0:0≤i∧i<n∧tsize P e=some sz
    ·rw[if_pos h0]at hl
     cases hl
     obtain⟨h0,hii,hn⟩:=h0
     refine⟨.pointer (some ⟨B,off+i.toNat*sz,none⟩),?_,.ptr o _ B ho⟩
     simp only[Instr.indexAt,asIntOf,Sem.run_bind,Sem.run_pure,Result.andThen_ok,underlying_run hu,h0,hii,and_self,if_true,tsize_run hn,addr_add]
    ·rw[if_neg h0]at hl;cases hl
   | ptr o off B ho=>
    cases d <;> try (cases hl;done)
    rename_i n e
    simp only at hl
    cases hn:tsize P e with
    | none=>rw[hn]at hl;cases hl
    | some sz=>
     rw[hn]at hl
     simp only[Option.bind_some]at hl
     by_cases h0:0≤i∧i<n
     ·rw[if_pos h0]at hl;cases hl
      refine⟨_,?_,.ptr o (off+i.toNat*sz) B ho⟩
      simp only[Instr.indexAt,asIntOf,Sem.run_bind,Sem.run_pure,Result.andThen_ok,underlying_run hu,Instr.sureAddr,h0,and_self,if_true,tsize_run hn,addr_add]
     ·rw[if_neg h0]at hl;cases hl
   | el a off g B p cs hg he hc hvv=>
    cases d <;> try (cases hl;done)
    rename_i n e
    simp only at hl
    cases hn:tsize P e with
    | none=>rw[hn]at hl;cases hl
    | some sz=>
     rw[hn]at hl
     simp only[Option.bind_some]at hl
     by_cases h0:0≤i∧i<n
     ·rw[if_pos h0]at hl;cases hl
      refine⟨.pointer (some ⟨B,p+(off+i.toNat*sz),none⟩),?_,.el a _ g B p cs hg he hc hvv⟩
      simp only[Instr.indexAt,asIntOf,Sem.run_bind,Sem.run_pure,Result.andThen_ok,underlying_run hu,Instr.sureAddr,h0,and_self,if_true,tsize_run hn,addr_add,Nat.add_assoc]
     ·rw[if_neg h0]at hl;cases hl
   | _=>cases d <;> cases hl
 | _=>cases hl
end
end Go.Vn
