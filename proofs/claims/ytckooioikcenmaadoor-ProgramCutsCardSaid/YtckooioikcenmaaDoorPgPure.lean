/- Programs: what may be, in plain Lean. Conditions: none. -/
namespace Go.Proofs.YtckooioikcenmaaDoor
/-- an instruction -/
structure Ins where
  op : Int
  a : Int
  b : Int
  c : Int
  n : Int
  s : ByteArray
/-- what an op has: a letter each -/
def shapeOf (o : Int) : ByteArray :=
  if o = 1 then ⟨#[114, 45, 45, 110, 45]⟩ else if o = 2 then ⟨#[114, 114, 45, 45, 45]⟩ else if o = 3 then ⟨#[114, 114, 114, 45, 45]⟩ else if o = 4 then ⟨#[114, 114, 114, 45, 45]⟩
  else if o = 5 then ⟨#[114, 114, 114, 45, 45]⟩ else if o = 6 then ⟨#[114, 114, 114, 45, 45]⟩ else if o = 7 then ⟨#[114, 114, 114, 45, 45]⟩ else if o = 8 then ⟨#[45, 45, 45, 106, 45]⟩
  else if o = 9 then ⟨#[114, 45, 45, 106, 45]⟩ else if o = 10 then ⟨#[114, 114, 112, 45, 115]⟩ else if o = 11 then ⟨#[114, 114, 45, 45, 45]⟩ else if o = 12 then ⟨#[114, 114, 45, 45, 115]⟩
  else if o = 13 then ⟨#[114, 114, 114, 45, 45]⟩ else if o = 14 then ⟨#[114, 45, 45, 45, 45]⟩ else if o = 15 then ⟨#[114, 45, 45, 45, 45]⟩ else if o = 16 then ⟨#[114, 45, 45, 45, 45]⟩ else ⟨#[]⟩
def namedOk (s : ByteArray) : Bool := decide ((1 : Int) ≤ s.size) && decide ((s.size : Int) ≤ 40)
def belowOk (h n : Int) : Bool := decide (0 ≤ n) && decide (n < h)
/-- what a letter lets be -/
def mayOk (regs len pol : Int) (l : Nat) (n : Int) : Bool :=
  if l = 114 then belowOk regs n else if l = 106 then belowOk len n else if l = 112 then belowOk pol n else if l = 110 then true else belowOk 1 n
def letter (s : ByteArray) (k : Nat) : Nat := (s.data.getD k 0).toNat
def fitsOk (regs len pol : Int) (i : Ins) : Bool :=
  let l := shapeOf i.op
  if l.size = 0 then false else
    mayOk regs len pol (letter l 0) i.a && mayOk regs len pol (letter l 1) i.b && mayOk regs len pol (letter l 2) i.c && mayOk regs len pol (letter l 3) i.n &&
    (if letter l 4 = 115 then namedOk i.s else decide (i.s.size = 0))
def lastOk : List Ins → Bool
  | [] => false
  | [i] => decide (i.op = 8) || decide (i.op = 15) || decide (i.op = 16)
  | _ :: r => lastOk r
def checkOk (name : ByteArray) (regs : Int) (code : List Ins) (pol : Int) : Bool :=
  namedOk name && decide (1 ≤ regs) && decide (regs ≤ 16) && decide (1 ≤ code.length) && decide (code.length ≤ 500) && code.all (fitsOk regs code.length pol) && lastOk code
end Go.Proofs.YtckooioikcenmaaDoor
