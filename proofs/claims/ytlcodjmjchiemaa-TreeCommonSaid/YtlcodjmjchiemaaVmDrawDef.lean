/- The value machine: regions whose order is drawn: what is asked of them. No condition. -/
import Derived.Test.YtlcodjmjchiemaaVmExec
set_option linter.unusedSimpArgs false
set_option linter.unusedVariables false
namespace Go.Vm

mutual
def beqAV : AV → AV → Bool
  | .undef, .undef => true
  | .bad, .bad => true
  | .flt k a, .flt k' b => decide (k = k') && Nat.beq a b
  | .cpx k a c, .cpx k' b d => decide (k = k') && Nat.beq a b && Nat.beq c d
  | .bool a, .bool b => a == b
  | .int k a, .int k' b => decide (k = k') && decide (a = b)
  | .str a, .str b => eqB a b
  | .nilp, .nilp => true
  | .ptr a b, .ptr c d => Nat.beq a c && Nat.beq b d
  | .el v a, .el u b => beqAV v u && Nat.beq a b
  | .nils, .nils => true
  | .sl g o s c e, .sl g' o' s' c' e' => Nat.beq g g' && Nat.beq o o' && Nat.beq s s' && (c == c') && beqL e e'
  | .nilm, .nilm => true
  | .mp a, .mp b => Nat.beq a b
  | .fn f a b, .fn g c d => decide (f = g) && beqL a c && beqL b d
  | .nilf, .nilf => true
  | .ifc t v, .ifc s u => Nat.beq t s && beqAV v u
  | .nili, .nili => true
  | .agg a, .agg b => beqL a b
  | .tup a, .tup b => beqL a b
  | _, _ => false
def beqL : List AV → List AV → Bool
  | [], [] => true
  | a :: x, b :: y => beqAV a b && beqL x y
  | _, _ => false
end

mutual
theorem beqAV_eq : ∀ a b : AV, beqAV a b = true → a = b := by
  intro a b h
  unfold beqAV at h
  split at h <;> (try simp only [Bool.and_eq_true, beq_iff_eq, decide_eq_true_eq, Nat.beq_eq] at h) <;> try (first | rfl | (cases h; done))
  · rw [h.1, h.2]
  · rw [h.1.1, h.1.2, h.2]
  · rw [h]
  · rw [h.1, h.2]
  · rename_i x y; rw [eqB_eq, beq_iff_eq] at h; rw [h]
  · rw [h.1, h.2]
  · rename_i v1 a1 v2 b1; rw [beqAV_eq v1 v2 h.1, h.2]
  · rename_i e1 _ _ _ _ e2; rw [h.1.1.1.1, h.1.1.1.2, h.1.1.2, h.1.2, beqL_eq e1 e2 h.2]
  · rw [h]
  · rename_i f1 a1 b1 f2 a2 b2; rw [h.1.1, beqL_eq a1 a2 h.1.2, beqL_eq b1 b2 h.2]
  · rename_i v1 _ v2; rw [h.1, beqAV_eq v1 v2 h.2]
  · rename_i a1 a2; rw [beqL_eq a1 a2 h]
  · rename_i a1 a2; rw [beqL_eq a1 a2 h]
theorem beqL_eq : ∀ a b : List AV, beqL a b = true → a = b := by
  intro a b h
  match a, b with
  | [], [] => rfl
  | a :: x, b :: y =>
    simp only [beqL, Bool.and_eq_true] at h
    rw [beqAV_eq a b h.1, beqL_eq x y h.2]
  | [], _ :: _ => simp [beqL] at h
  | _ :: _, [] => simp [beqL] at h
end

theorem eqB_self : ∀ a : List UInt8, eqB a a = true
  | [] => rfl
  | a :: x => by simp [eqB, eqB_self x]

mutual
theorem beqAV_self : ∀ a : AV, beqAV a a = true := by
  intro a
  match a with
  | .undef | .bad | .bool _ | .int _ _ | .flt _ _ | .cpx _ _ _ | .nilp | .ptr _ _ | .nils | .nilm | .mp _ | .nilf | .nili => simp [beqAV]
  | .str s => simp [beqAV, eqB_self]
  | .el v o => simp [beqAV, beqAV_self v]
  | .sl g o s c e => simp [beqAV, beqL_self e]
  | .fn f x y => simp [beqAV, beqL_self x, beqL_self y]
  | .ifc t v => simp [beqAV, beqAV_self v]
  | .agg x => simp [beqAV, beqL_self x]
  | .tup x => simp [beqAV, beqL_self x]
theorem beqL_self : ∀ a : List AV, beqL a a = true := by
  intro a
  match a with
  | [] => rfl
  | a :: x => simp [beqL, beqAV_self a, beqL_self x]
end

section
variable {μ : Type → Type} [Mp μ] (P : Program)

/-- 0: it does not look at the heap; 1: it reads it; 2: it turns it. -/
def cls (o : Op) : Nat := match o with
  | .move _ | .assign _ | .pick .. | .build .. | .nilCheck _ | .binOp .. | .unOp .. | .makeInterface .. | .makeFunc .. | .slice .. | .fieldAddr .. | .field .. | .indexAddr .. | .index .. | .extract .. => 0
  | .convert _ d _ => match P.underlying d with
    | some (.slice _) => 2
    | _ => 0
  | .load .. => 1
  | .call c => match c.callee with
    | .builtin .len | .builtin .min | .builtin .max => 0
    | _ => 2
  | _ => 2

def dstAt (ops : Array Oper) (i : Nat) : Option Nat := (ops[i]?).bind (·.dst)

def reads (ops : Array Oper) (o : Oper) : List Nat :=
  (o.op.operands.toList.filterMap fun | .tmp t => some t | _ => none) ++ (match o.guard with
    | some (j, _) => (dstAt ops j).toList
    | none => [])

def maskOf (acc : List Nat) (o : Oper) : Nat := o.after.toList.foldl (fun s e => if Region.binds .any e then s ||| 2 ^ e.on ||| acc.getD e.on 0 else s) 0
def masks : List Oper → List Nat → List Nat
  | [], acc => acc
  | o :: rest, acc => masks rest (acc ++ [maskOf acc o])

def clsAt (ops : Array Oper) (i : Nat) : Nat := match ops[i]? with
  | some o => cls P o.op
  | none => 0

def drawOk (ops : Array Oper) (ms : List Nat) : Bool :=
  let n := ops.size
  (List.range n).all fun j => match ops[j]? with
    | none => true
    | some o =>
      (o.after.all fun e => !Region.binds .any e || decide (e.on < j)) &&
      ((List.range j).all fun i =>
        (!(clsAt P ops i == 2 && clsAt P ops j == 2) || (ms.getD j 0).testBit i) &&
        (match dstAt ops i with
          | some d => dstAt ops j != some d && (!(reads ops o).contains d || (ms.getD j 0).testBit i)
          | none => true) &&
        (match dstAt ops j with
          | some d => !((ops[i]?).any fun oi => (reads ops oi).contains d) || (ms.getD j 0).testBit i
          | none => true))

/-- How many of the first m operations turn the heap. -/
def ec (ops : Array Oper) (m : Nat) : Nat := ((List.range m).filter fun j => clsAt P ops j == 2).length

/-- Behind how many operations an operation that reads may come up, elsewhere than where it stands. -/
def readPlan (ops : Array Oper) (ms : List Nat) (i : Nat) : List Nat :=
  (List.range (ops.size + 1)).filter fun m =>
    (m == 0 || clsAt P ops (m - 1) == 2) && ec P ops m != ec P ops i &&
    ((List.range ops.size).all fun j => !(clsAt P ops j == 2) || (if j < m then !(ms.getD j 0).testBit i else !(ms.getD i 0).testBit j))

def plan (ops : Array Oper) : Option (List (Nat × List Nat)) :=
  let ms := masks ops.toList []
  if drawOk P ops ms then some (((List.range ops.size).filter fun i => clsAt P ops i == 1).map fun i => (i, readPlan P ops ms i)) else none

/-- The states, from before the first operation to behind the last. -/
def trace (cf : Cf μ) (ops : Array Oper) : List Oper → St μ → Option (List (St μ))
  | [], st => some [st]
  | o :: rest, st => (stepOp P cf ops o st).bind fun st' => (trace cf ops rest st').map fun l => st :: l

def readSame (ops : Array Oper) (tr : List (St μ)) (i m : Nat) : Bool :=
  match ops[i]?, tr[i]?, tr[m]? with
  | some o, some s, some s' => match want ops s.t o with
    | some true => match opEff P (ev s.t) s.h o, opEff P (ev s.t) s'.h o with
      | some (.val v _), some (.val v' _) => beqAV v v'
      | _, _ => false
    | some false => true
    | none => false
  | _, _, _ => false

def drawG (cf : Cf μ) (ops : Array Oper) (pl : List (Nat × List Nat)) (st : St μ) : Option (St μ) :=
  (trace P cf ops ops.toList st).bind fun tr => if pl.all fun p => p.2.all fun m => readSame P ops tr p.1 m then tr.getLast? else none

def drawF (cf : Cf μ) (ops : Array Oper) (st : St μ) : Option (St μ) := (plan P ops).bind fun pl => drawG P cf ops pl st

theorem drawF_eq {cf : Cf μ} {ops : Array Oper} {st : St μ} (pl : List (Nat × List Nat)) (h : plan P ops = some pl) : drawF P cf ops st = drawG P cf ops pl st := by simp [drawF, h]
end
end Go.Vm
