/-
  The abstract machine AM, its values, heaps, operations and big-step rules: a deterministic reading of the loaded code, without a tape, without capacities and without an order of evaluation. No condition: definitions and their plain rules.
-/
import Derived.Calls
import Derived.Orders
import Derived.Below
import Derived.KernelRfl
namespace Go.Proofs.YtdgmihohmkdpjaaDoor.AM
set_option linter.unusedSimpArgs false
set_option linter.unusedVariables false
open Go

/-- What is known of a slice's capacity: exactly, at least (with its element's cells), or nothing (memory that is never written). -/
inductive ACap where
  | ex (c : Nat)
  | lb (c sz : Nat)
  | ro

inductive AV where
  | b (b : Bool)
  | i (k : IntKind) (n : Int)
  | str (s : ByteArray)
  | ptr (b o : Nat)
  | nilp
  | sl (b o len : Nat) (cap : ACap)
  | esl
  | nils
  | fn (f : FuncId) (first cap : List AV)
  | nilf
  | agg (cs : List AV)
  | tup (vs : List AV)

abbrev AV.I (n : Int) : AV := .i .i64 n

/-- The cells of a value. -/
def AV.cells : AV → List AV
  | .agg cs => cs
  | v => [v]

/-- A value of one cell. -/
def AV.flat : AV → Bool
  | .agg _ | .tup _ => false
  | _ => true

def AV.isTup : AV → Bool
  | .tup _ => true
  | _ => false

inductive AX where
  | t (n : Nat)
  | c (v : AV)
  | g (n : Nat)

structure Blk where
  cells : List AV
  wr : Bool

structure AH where
  n : Nat
  bk : Nat → Option Blk

def AH.push (H : AH) (cs : List AV) : AH := ⟨H.n + 1, fun b => if b = H.n then some ⟨cs, true⟩ else H.bk b⟩
def AH.put (H : AH) (b : Nat) (o : Option Blk) : AH := ⟨H.n, fun b' => if b' = b then o else H.bk b'⟩
/-- The cells of block b. -/
def AH.at (H : AH) (b : Nat) : Option (List AV) := (H.bk b).map (·.cells)

/-- n cells from o on. -/
def seg (cs : List AV) (o n : Nat) : Option (List AV) := if o + n ≤ cs.length then some ((cs.drop o).take n) else none
/-- vs in the place of the cells from o on. -/
def splice (cs : List AV) (o : Nat) (vs : List AV) : List AV := cs.take o ++ vs ++ cs.drop (o + vs.length)

def AH.load (H : AH) (b o : Nat) : Option AV := (H.bk b).bind fun k => k.cells[o]?
def AH.loadN (H : AH) (b o n : Nat) : Option (List AV) := (H.bk b).bind fun k => seg k.cells o n
def AH.store (H : AH) (b o : Nat) (vs : List AV) : Option AH :=
  match H.bk b with
  | some k => if k.wr = true ∧ o + vs.length ≤ k.cells.length then some (H.put b (some ⟨splice k.cells o vs, true⟩)) else none
  | none => none

abbrev Env := List (Nat × AV)

def get : Env → Nat → Option AV
  | [], _ => none
  | (s, v) :: e, t => if t = s then some v else get e t
def upd (e : Env) (d : Option Nat) (v : AV) : Env :=
  match d with
  | some t => (t, v) :: e
  | none => e
/-- Of an environment the names ks alone, in this order. -/
def keepE (ks : List Nat) (e : Env) : Env :=
  match ks with
  | [] => []
  | k :: ks => match get e k with
    | some v => (k, v) :: keepE ks e
    | none => keepE ks e

def ev (e : Env) : AX → Option AV
  | .t n => get e n
  | .c v => some v
  | .g n => some (.ptr n 0)
def evs (e : Env) : List AX → Option (List AV)
  | [] => some []
  | x :: xs => match ev e x with
    | some v => (evs e xs).map (v :: ·)
    | none => none

def ibits (k : IntKind) (f : BitVec k.bits → BitVec k.bits → BitVec k.bits) (x y : Int) : Option AV :=
  some (.i k (k.wrap ((f (BitVec.ofInt k.bits x) (BitVec.ofInt k.bits y)).toNat)))
def ibin (op : BinOp) (k : IntKind) (x y : Int) : Option AV :=
  match op with
  | .add => some (.i k (k.wrap (x + y)))
  | .sub => some (.i k (k.wrap (x - y)))
  | .mul => some (.i k (k.wrap (x * y)))
  | .quo => if y = 0 then none else some (.i k (k.wrap (x.tdiv y)))
  | .rem => if y = 0 then none else some (.i k (x.tmod y))
  | .and => ibits k (· &&& ·) x y
  | .or => ibits k (· ||| ·) x y
  | .xor => ibits k (· ^^^ ·) x y
  | .andNot => ibits k (fun a b => a &&& ~~~b) x y
  | .eql => some (.b (x == y))
  | .neq => some (.b (x != y))
  | .lss => some (.b (x < y))
  | .leq => some (.b (x ≤ y))
  | .gtr => some (.b (x > y))
  | .geq => some (.b (x ≥ y))
  | _ => none
def ishift (op : BinOp) (k : IntKind) (x y : Int) : Option AV :=
  if y < 0 then none else
  match op with
  | .shl => some (.i k (k.wrap (x * 2 ^ (min y.toNat k.bits))))
  | .shr => some (.i k (x.fdiv (2 ^ (min y.toNat k.bits))))
  | _ => none
def isShift : BinOp → Bool
  | .shl | .shr => true
  | _ => false
def abin (op : BinOp) : AV → AV → Option AV
  | .i k a, .i k' c => if isShift op = true then ishift op k a c else if k = k' then ibin op k a c else none
  | _, _ => none
def aun (op : UnOp) : AV → Option AV
  | .b x => match op with | .not => some (.b !x) | _ => none
  | .i k n => match op with
    | .neg => some (.i k (k.wrap (0 - n)))
    | _ => none
  | _ => none
/-- Is the value (kind 0: a slice, 1: a pointer, 2: a function) nil? -/
def isNil : Nat → AV → Option Bool
  | 0, .nils => some true
  | 0, .sl .. => some false
  | 0, .esl => some false
  | 1, .nilp => some true
  | 1, .ptr .. => some false
  | 2, .nilf => some true
  | 2, .fn .. => some false
  | _, _ => none
/-- The numbers of a row of cells that are integers of one kind each. -/
def eqInts : List AV → List AV → Option Bool
  | [], [] => some true
  | .i k a :: xs, .i k' c :: ys => if k = k' then (eqInts xs ys).map fun r => (a == c) && r else none
  | _, _ => none

def fill (cs : List AV) : List (Nat × Nat × AV) → Option (List AV)
  | [] => some cs
  | (o, s, v) :: ps => if v.cells.length = s ∧ v.isTup = false ∧ o + s ≤ cs.length then fill (splice cs o v.cells) ps else none

/-- A bound on lengths that keeps every make and append below the memory's bound. -/
def big : Nat := 8589934592

def alen : AV → Option Nat
  | .sl _ _ n _ => some n
  | .esl | .nils => some 0
  | _ => none
/-- The first n elements (of 'sz' cells) of a slice. -/
def elems (H : AH) (sz : Nat) : AV → Option (List AV)
  | .sl b o n _ => H.loadN b o (n * sz)
  | .esl | .nils => some []
  | _ => none

/-- append of the cells 'new' (n elements). -/
def aapp (H : AH) (sz : Nat) (s : AV) (n : Nat) (new : List AV) : Option (AV × AH) :=
  match s with
  | .nils => if n = 0 then some (.nils, H) else if n ≤ big then some (.sl H.n 0 n (.lb n sz), H.push new) else none
  | .esl => if n = 0 then some (.esl, H) else none
  | .sl b o len cap =>
    if n = 0 then some (s, H) else
    if big < len + n then none else
    match cap with
    | .ro => none
    | .ex c => if len + n ≤ c then (H.store b (o + len * sz) new).map fun H' => (.sl b o (len + n) (.ex c), H')
      else match H.loadN b o (len * sz) with
        | some old => some (.sl H.n 0 (len + n) (.lb (len + n) sz), H.push (old ++ new))
        | none => none
    | .lb c z => if z ≠ sz then none else
      if len + n ≤ c then (H.store b (o + len * sz) new).map fun H' => (.sl b o (len + n) (.lb c sz), H')
      else match H.bk b, H.loadN b o (len * sz) with
        | some k, some old => if k.wr = true then some (.sl H.n 0 (len + n) (.lb (len + n) sz), (H.put b none).push (old ++ new)) else none
        | _, _ => none
  | _ => none

def aint : Option AV → Option Nat
  | some (.i _ n) => if 0 ≤ n then some n.toNat else none
  | _ => none

/-- A bound of a slice expression: what was typed, or d. -/
def bnd (d : Nat) : Option AV → Option Nat
  | none => some d
  | some v => aint (some v)

/-- x[lo:hi:mx]; none of the three: 'none'. -/
def aslice (sz : Nat) (x : AV) (lo hi mx : Option AV) : Option AV :=
  match x with
  | .nils =>
    match bnd 0 lo, bnd 0 hi, mx with
    | some 0, some 0, none => some .nils
    | _, _, _ => none
  | .sl b o len cap =>
    match bnd 0 lo, bnd len hi, mx with
    | some l, some h, none =>
      if l ≤ h ∧ h ≤ len then
        match cap with
        | .ex c => some (.sl b (if c = l then o else o + l * sz) (h - l) (.ex (c - l)))
        | .lb c z => if l = 0 then some (.sl b o h (.lb c z)) else if l < len then (if z = sz then some (.sl b (o + l * sz) (h - l) (.lb (c - l) z)) else none) else some .esl
        | .ro => if l = 0 then some (.sl b o h .ro) else if l < len then some (.sl b (o + l * sz) (h - l) .ro) else some .esl
      else none
    | some l, some h, some m =>
      match hi, bnd 0 (some m) with
      | some _, some m => if l ≤ h ∧ h ≤ m ∧ m ≤ len then some (.sl b (if m = l then o else o + l * sz) (h - l) (.ex (m - l))) else none
      | _, _ => none
    | _, _, _ => none
  | .esl =>
    match bnd 0 lo, bnd 0 hi, mx with
    | some 0, some 0, none => some .esl
    | _, _, _ => none
  | _ => none

inductive AOp where
  | mv (x : AX)
  | pick (c a b : AX)
  | alloc (zero : List AV)
  | box (x : AX)
  | load (x : AX)
  | loadN (n : Nat) (x : AX)
  | store (n : Nat) (a v : AX)
  | nilc (x : AX)
  | bin (op : BinOp) (x y : AX)
  | eqB (ne : Bool) (x y : AX)
  | eqN (kd : Nat) (ne : Bool) (x y : AX)
  | eqA (n : Nat) (ne : Bool) (x y : AX)
  | un (op : UnOp) (x : AX)
  | conv (k : IntKind) (x : AX)
  | mksl (zero : List AV) (len cap : AX)
  | slice (sz : Nat) (x : AX) (lo hi mx : Option AX)
  | fldA (off : Nat) (x : AX)
  | fld (off : Nat) (x : AX)
  | fldN (off n : Nat) (x : AX)
  | idxA (sz : Nat) (x i : AX)
  | idxAA (sz len : Nat) (x i : AX)
  | idx (x i : AX)
  | ext (x : AX) (i : Nat)
  | mkfn (f : FuncId) (first cap : List AX)
  | build (zero : List AV) (parts : List (Nat × Nat × AX))
  | bsl (zero : List AV) (len : Nat) (parts : List (Nat × Nat × AX))
  | len (x : AX)
  | app (sz : Nat) (s x : AX)
  | mx (x y : AX)
  | mn (x y : AX)
  | call (f : FuncId) (args : List AX)
  | callv (f : AX) (args : List AX)

def evParts (e : Env) : List (Nat × Nat × AX) → Option (List (Nat × Nat × AV))
  | [] => some []
  | (o, s, x) :: ps => match ev e x with
    | some v => (evParts e ps).map ((o, s, v) :: ·)
    | none => none

def evo (e : Env) : Option AX → Option (Option AV)
  | none => some none
  | some x => (ev e x).map some

/-- What an operation that calls nothing comes to. -/
def aop (e : Env) (H : AH) : AOp → Option (AV × AH)
  | .mv x => (ev e x).map (·, H)
  | .pick c a b => match ev e c with
    | some (.b true) => (ev e a).map (·, H)
    | some (.b false) => (ev e b).map (·, H)
    | _ => none
  | .alloc z => some (.ptr H.n 0, H.push z)
  | .box x => match ev e x with
    | some v => if v.isTup = true then none else some (.ptr H.n 0, H.push v.cells)
    | none => none
  | .load x => match ev e x with
    | some (.ptr b o) => (H.load b o).map (·, H)
    | _ => none
  | .loadN n x => match ev e x with
    | some (.ptr b o) => (H.loadN b o n).map fun cs => (.agg cs, H)
    | _ => none
  | .store n a v => match ev e a, ev e v with
    | some (.ptr b o), some v => if v.cells.length = n ∧ v.isTup = false then (H.store b o v.cells).map fun H' => (.tup [], H') else none
    | _, _ => none
  | .nilc x => match ev e x with
    | some (.ptr b o) => some (.ptr b o, H)
    | some (.fn f a c) => some (.fn f a c, H)
    | _ => none
  | .bin op x y => match ev e x, ev e y with
    | some a, some b => (abin op a b).map (·, H)
    | _, _ => none
  | .eqB ne x y => match ev e x, ev e y with
    | some (.b a), some (.b b) => some (.b (if ne then a != b else a == b), H)
    | _, _ => none
  | .eqN kd ne x y => match ev e x, ev e y with
    | some a, some b => match isNil kd a, isNil kd b with
      | some true, some q => some (.b (if ne then !q else q), H)
      | some p, some true => some (.b (if ne then !p else p), H)
      | _, _ => none
    | _, _ => none
  | .eqA n ne x y => match ev e x, ev e y with
    | some (.agg a), some (.agg b) => if a.length = n then (eqInts a b).map fun r => (.b (if ne then !r else r), H) else none
    | _, _ => none
  | .un op x => match ev e x with
    | some a => (aun op a).map (·, H)
    | _ => none
  | .conv k x => match ev e x with
    | some (.i _ n) => some (.i k (k.wrap n), H)
    | _ => none
  | .mksl z l c => match ev e l, ev e c with
    | some (.i _ l), some (.i _ c) => if 0 ≤ l ∧ l ≤ c ∧ c ≤ big then some (.sl H.n 0 l.toNat (.ex c.toNat), H.push (List.replicate c.toNat z).flatten) else none
    | _, _ => none
  | .slice sz x lo hi mx => match ev e x, evo e lo, evo e hi, evo e mx with
    | some x, some lo, some hi, some mx => (aslice sz x lo hi mx).map (·, H)
    | _, _, _, _ => none
  | .fldA off x => match ev e x with
    | some (.ptr b o) => some (.ptr b (o + off), H)
    | _ => none
  | .fld off x => match ev e x with
    | some (.agg cs) => (cs[off]?).map (·, H)
    | _ => none
  | .fldN off n x => match ev e x with
    | some (.agg cs) => (seg cs off n).map fun cs => (.agg cs, H)
    | _ => none
  | .idxA sz x i => match ev e x, ev e i with
    | some (.sl b o len _), some (.i _ n) => if 0 ≤ n ∧ n < len then some (.ptr b (o + n.toNat * sz), H) else none
    | _, _ => none
  | .idxAA sz len x i => match ev e x, ev e i with
    | some (.ptr b o), some (.i _ n) => if 0 ≤ n ∧ n < len then some (.ptr b (o + n.toNat * sz), H) else none
    | _, _ => none
  | .idx x i => match ev e x, ev e i with
    | some (.str s), some (.i _ n) => if h : 0 ≤ n ∧ n.toNat < s.size then some (.i .u8 (s[n.toNat]'h.2).toNat, H) else none
    | _, _ => none
  | .ext x i => match ev e x with
    | some (.tup vs) => (vs[i]?).map (·, H)
    | _ => none
  | .mkfn f first cap => match evs e first, evs e cap with
    | some a, some b => some (.fn f a b, H)
    | _, _ => none
  | .build z ps => match evParts e ps with
    | some ps => (fill z ps).map fun cs => (.agg cs, H)
    | none => none
  | .bsl z len ps => match evParts e ps with
    | some ps => (fill z ps).map fun cs => (.sl H.n 0 len (.ex len), H.push cs)
    | none => none
  | .len x => match ev e x with
    | some a => (alen a).map fun (n : Nat) => (AV.i .i64 (n : Int), H)
    | none => none
  | .app sz s x => match ev e s, ev e x with
    | some s, some x => match alen x, elems H sz x with
      | some n, some new => aapp H sz s n new
      | _, _ => none
    | _, _ => none
  | .mx x y => match ev e x, ev e y with
    | some (.i .i64 a), some (.i .i64 b) => some (.i .i64 (if a < b then b else a), H)
    | _, _ => none
  | .mn x y => match ev e x, ev e y with
    | some (.i .i64 a), some (.i .i64 b) => some (.i .i64 (if b < a then b else a), H)
    | _, _ => none
  | .call .. | .callv .. => none

/-- An operation in its place: where its value goes, under which outcome it is carried out, which addresses it must leave alone, and (of a call) whether it must leave all that was there alone. -/
structure AO where
  d : Option Nat := none
  c : Option (Nat × Bool) := none
  gd : List AX := []
  q : Bool := false
  op : AOp

inductive AC where
  | skip
  | ops (l : List AO)
  | seq (a b : AC)
  | cond (x : AX) (a b : AC)
  | block (id : Nat) (a : AC)
  | loop (a : AC)
  | exit (id : Nat)
  | ret
  | keep (ks : List Nat)

inductive Out where
  | norm
  | brk (id : Nat)
  | ret

inductive ARes where
  | t (n : Nat)
  | c (n size : Nat)
  | c1 (n : Nat)

structure AFn where
  np : Nat
  body : AC
  res : List ARes

/-- The parameters and what was captured, in the first places. -/
def enterE : Nat → List AV → Env
  | _, [] => []
  | k, v :: vs => (k, v) :: enterE (k + 1) vs

def ares1 (e : Env) (H : AH) : ARes → Option AV
  | .t n => get e n
  | .c n size => match get e n with
    | some (.ptr b o) => (H.loadN b o size).map .agg
    | _ => none
  | .c1 n => match get e n with
    | some (.ptr b o) => H.load b o
    | _ => none
def aress (e : Env) (H : AH) : List ARes → Option (List AV)
  | [] => some []
  | r :: rs => match ares1 e H r with
    | some v => (aress e H rs).map (v :: ·)
    | none => none
def ares (e : Env) (H : AH) (rs : List ARes) : Option AV :=
  match aress e H rs with
  | some [v] => some v
  | some vs => some (.tup vs)
  | none => none

/-- The blocks at the addresses 'gd' are as they were. -/
def Guards (e : Env) (H H' : AH) : List AX → Prop
  | [] => True
  | x :: xs => (match ev e x with | some (.ptr b _) => H'.bk b = H.bk b | some (.sl b _ _ _) => H'.bk b = H.bk b | _ => True) ∧ Guards e H H' xs
/-- All that was there is as it was. -/
def Ext (H H' : AH) : Prop := H.n ≤ H'.n ∧ ∀ b, b < H.n → H'.bk b = H.bk b

theorem Ext.refl (H : AH) : Ext H H := ⟨Nat.le_refl _, fun _ _ => rfl⟩
theorem Ext.trans {a b c : AH} (h : Ext a b) (k : Ext b c) : Ext a c := ⟨Nat.le_trans h.1 k.1, fun x hx => (k.2 x (Nat.lt_of_lt_of_le hx h.1)).trans (h.2 x hx)⟩
theorem Ext.push (H : AH) (cs : List AV) : Ext H (H.push cs) := ⟨Nat.le_succ _, fun b hb => by simp [AH.push]; omega⟩

inductive Cfg where
  | code (c : AC) (e : Env) (H : AH)
  | ops (l : List AO) (e : Env) (H : AH)
  | call (f : FuncId) (args : List AV) (H : AH)
inductive Res where
  | out (o : Out) (e : Env) (H : AH)
  | ops (e : Env) (H : AH)
  | val (v : AV) (H : AH)

def isCall : AOp → Bool
  | .call .. | .callv .. => true
  | _ => false
/-- The function and the arguments of a call. -/
def target (e : Env) : AOp → Option (FuncId × List AV)
  | .call f args => (evs e args).map (f, ·)
  | .callv x args => match ev e x, evs e args with
    | some (.fn f a c), some vs => some (f, a ++ vs ++ c)
    | _, _ => none
  | _ => none

/-- Is the operation wanted? (none: it can't be told.) -/
def want (e : Env) : Option (Nat × Bool) → Option Bool
  | none => some true
  | some (t, b) => match get e t with
    | some (.b x) => some (x == b)
    | some _ => some false
    | none => none

/-- The rules, big step. C: the code of the functions. -/
inductive E (C : FuncId → Option AFn) : Cfg → Res → Prop
  | skip {e H} : E C (.code .skip e H) (.out .norm e H)
  | keep {ks e H} : E C (.code (.keep ks) e H) (.out .norm (keepE ks e) H)
  | ops {l e H e' H'} : E C (.ops l e H) (.ops e' H') → E C (.code (.ops l) e H) (.out .norm e' H')
  | seqN {a b e H e' H' r} : E C (.code a e H) (.out .norm e' H') → E C (.code b e' H') r → E C (.code (.seq a b) e H) r
  | seqX {a b e H o e' H'} : E C (.code a e H) (.out o e' H') → o ≠ .norm → E C (.code (.seq a b) e H) (.out o e' H')
  | cond {x a b e H t r} : ev e x = some (.b t) → E C (.code (if t = true then a else b) e H) r → E C (.code (.cond x a b) e H) r
  | blockX {id a e H o e' H'} : E C (.code a e H) (.out o e' H') → o ≠ .brk id → E C (.code (.block id a) e H) (.out o e' H')
  | blockB {id a e H e' H'} : E C (.code a e H) (.out (.brk id) e' H') → E C (.code (.block id a) e H) (.out .norm e' H')
  | loopN {a e H e' H' r} : E C (.code a e H) (.out .norm e' H') → E C (.code (.loop a) e' H') r → E C (.code (.loop a) e H) r
  | loopX {a e H o e' H'} : E C (.code a e H) (.out o e' H') → o ≠ .norm → E C (.code (.loop a) e H) (.out o e' H')
  | exit {id e H} : E C (.code (.exit id) e H) (.out (.brk id) e H)
  | ret {e H} : E C (.code .ret e H) (.out .ret e H)
  | nil {e H} : E C (.ops [] e H) (.ops e H)
  | pass {o l e H r} : want e o.c = some false → E C (.ops l (upd e o.d (.tup [])) H) r → E C (.ops (o :: l) e H) r
  | op {o l e H v H' r} : want e o.c = some true → isCall o.op = false → aop e H o.op = some (v, H') → Guards e H H' o.gd → (o.q = true → Ext H H') →
      E C (.ops l (upd e o.d v) H') r → E C (.ops (o :: l) e H) r
  | call {o l e H f args v H' r} : want e o.c = some true → target e o.op = some (f, args) → E C (.call f args H) (.val v H') → Guards e H H' o.gd → (o.q = true → Ext H H') →
      E C (.ops l (upd e o.d v) H') r → E C (.ops (o :: l) e H) r
  | enter {f args H fn o e H' v} : C f = some fn → args.length = fn.np → E C (.code fn.body (enterE 0 args) H) (.out o e H') → (o = .norm ∨ o = .ret) → ares e H' fn.res = some v →
      E C (.call f args H) (.val v H')

/-- A call, and what it comes to. -/
def Gives (C : FuncId → Option AFn) (f : FuncId) (args : List AV) (H : AH) (v : AV) (H' : AH) : Prop := E C (.call f args H) (.val v H')

def W (C : FuncId → Option AFn) (c : AC) (e : Env) (H : AH) (Q : Out → Env → AH → Prop) : Prop := ∃ o e' H', E C (.code c e H) (.out o e' H') ∧ Q o e' H'
def WO (C : FuncId → Option AFn) (l : List AO) (e : Env) (H : AH) (K : Env → AH → Prop) : Prop := ∃ e' H', E C (.ops l e H) (.ops e' H') ∧ K e' H'

def seqK (C : FuncId → Option AFn) (b : AC) (Q : Out → Env → AH → Prop) : Out → Env → AH → Prop
  | .norm, e, H => W C b e H Q
  | o, e, H => Q o e H
def blockK (id : Nat) (Q : Out → Env → AH → Prop) : Out → Env → AH → Prop
  | .brk k, e, H => if k = id then Q .norm e H else Q (.brk k) e H
  | o, e, H => Q o e H
def loopK (C : FuncId → Option AFn) (a : AC) (Q : Out → Env → AH → Prop) : Out → Env → AH → Prop
  | .norm, e, H => W C (.loop a) e H Q
  | o, e, H => Q o e H
def opsK (Q : Out → Env → AH → Prop) : Env → AH → Prop := fun e H => Q .norm e H
def bindO {α : Type} (o : Option α) (k : α → Prop) : Prop := ∃ a, o = some a ∧ k a
def ifB (o : Option AV) (p q : Prop) : Prop := (o = some (.b true) ∧ p) ∨ (o = some (.b false) ∧ q)
def ifW (o : Option Bool) (p q : Prop) : Prop := (o = some true ∧ p) ∨ (o = some false ∧ q)
def CallK (C : FuncId → Option AFn) (f : FuncId) (args : List AV) (H : AH) (K : AV → AH → Prop) : Prop := ∃ v H', Gives C f args H v H' ∧ K v H'

section rules
variable {C : FuncId → Option AFn}

theorem bindO_some {α : Type} (a : α) (k : α → Prop) : bindO (some a) k = k a := by simp [bindO]
theorem ifB_true (p q : Prop) : ifB (some (.b true)) p q = p := by simp [ifB]
theorem ifB_false (p q : Prop) : ifB (some (.b false)) p q = q := by simp [ifB]
theorem ifB_dec (t : Bool) (p q : Prop) : ifB (some (.b t)) p q = if t = true then p else q := by cases t <;> simp [ifB]
theorem ifW_true (p q : Prop) : ifW (some true) p q = p := by simp [ifW]
theorem ifW_false (p q : Prop) : ifW (some false) p q = q := by simp [ifW]
theorem ifW_dec (t : Bool) (p q : Prop) : ifW (some t) p q = if t = true then p else q := by cases t <;> simp [ifW]

theorem W_skip {e H Q} : W C .skip e H Q = Q .norm e H := by
  apply propext; constructor
  · rintro ⟨o, e', H', h, q⟩; cases h; exact q
  · exact fun q => ⟨_, _, _, .skip, q⟩
theorem W_keep {ks e H Q} : W C (.keep ks) e H Q = Q .norm (keepE ks e) H := by
  apply propext; constructor
  · rintro ⟨o, e', H', h, q⟩; cases h; exact q
  · exact fun q => ⟨_, _, _, .keep, q⟩
theorem W_exit {id e H Q} : W C (.exit id) e H Q = Q (.brk id) e H := by
  apply propext; constructor
  · rintro ⟨o, e', H', h, q⟩; cases h; exact q
  · exact fun q => ⟨_, _, _, .exit, q⟩
theorem W_ret {e H Q} : W C .ret e H Q = Q .ret e H := by
  apply propext; constructor
  · rintro ⟨o, e', H', h, q⟩; cases h; exact q
  · exact fun q => ⟨_, _, _, .ret, q⟩
theorem W_ops {l e H Q} : W C (.ops l) e H Q = WO C l e H (opsK Q) := by
  apply propext; constructor
  · rintro ⟨o, e', H', h, q⟩; cases h with | ops h => exact ⟨_, _, h, q⟩
  · rintro ⟨e', H', h, q⟩; exact ⟨_, _, _, .ops h, q⟩
theorem W_seq {a b e H Q} : W C (.seq a b) e H Q = W C a e H (seqK C b Q) := by
  apply propext; constructor
  · rintro ⟨o, e', H', h, q⟩
    cases h with
    | seqN h1 h2 => exact ⟨_, _, _, h1, _, _, _, h2, q⟩
    | seqX h1 hn => exact ⟨_, _, _, h1, by cases o <;> first | exact absurd rfl hn | exact q⟩
  · rintro ⟨o, e', H', h, q⟩
    cases o with
    | norm => obtain ⟨o2, e2, H2, h2, q2⟩ := q; exact ⟨_, _, _, .seqN h h2, q2⟩
    | brk k => exact ⟨_, _, _, .seqX h (by simp), q⟩
    | ret => exact ⟨_, _, _, .seqX h (by simp), q⟩
theorem W_block {id a e H Q} : W C (.block id a) e H Q = W C a e H (blockK id Q) := by
  apply propext; constructor
  · rintro ⟨o, e', H', h, q⟩
    cases h with
    | blockX h1 hn =>
      refine ⟨_, _, _, h1, ?_⟩
      cases o with
      | norm => exact q
      | ret => exact q
      | brk k => simp only [blockK]; rw [if_neg (fun hk => hn (by rw [hk]))]; exact q
    | blockB h1 => exact ⟨_, _, _, h1, by simp only [blockK, if_true]; exact q⟩
  · rintro ⟨o, e', H', h, q⟩
    cases o with
    | norm => exact ⟨_, _, _, .blockX h (by simp), q⟩
    | ret => exact ⟨_, _, _, .blockX h (by simp), q⟩
    | brk k =>
      by_cases hk : k = id
      · subst hk; simp only [blockK, if_true] at q; exact ⟨_, _, _, .blockB h, q⟩
      · simp only [blockK, if_neg hk] at q; exact ⟨_, _, _, .blockX h (by simpa using hk), q⟩
theorem W_loop {a e H Q} : W C (.loop a) e H Q = W C a e H (loopK C a Q) := by
  apply propext; constructor
  · rintro ⟨o, e', H', h, q⟩
    cases h with
    | loopN h1 h2 => exact ⟨_, _, _, h1, _, _, _, h2, q⟩
    | loopX h1 hn => exact ⟨_, _, _, h1, by cases o <;> first | exact absurd rfl hn | exact q⟩
  · rintro ⟨o, e', H', h, q⟩
    cases o with
    | norm => obtain ⟨o2, e2, H2, h2, q2⟩ := q; exact ⟨_, _, _, .loopN h h2, q2⟩
    | brk k => exact ⟨_, _, _, .loopX h (by simp), q⟩
    | ret => exact ⟨_, _, _, .loopX h (by simp), q⟩
theorem W_cond {x a b e H Q} : W C (.cond x a b) e H Q = ifB (ev e x) (W C a e H Q) (W C b e H Q) := by
  apply propext; constructor
  · rintro ⟨o, e', H', h, q⟩
    cases h with
    | @cond _ _ _ _ _ t _ hx h1 =>
      cases t
      · exact .inr ⟨hx, _, _, _, by simpa using h1, q⟩
      · exact .inl ⟨hx, _, _, _, by simpa using h1, q⟩
  · rintro (⟨hx, o, e', H', h, q⟩ | ⟨hx, o, e', H', h, q⟩)
    · exact ⟨_, _, _, .cond hx (by simpa using h), q⟩
    · exact ⟨_, _, _, .cond hx (by simpa using h), q⟩
theorem WO_nil {e H K} : WO C [] e H K = K e H := by
  apply propext; constructor
  · rintro ⟨e', H', h, q⟩; cases h; exact q
  · exact fun q => ⟨_, _, .nil, q⟩
theorem isCall_target {e : Env} {op : AOp} {r} (h : target e op = some r) : isCall op = true := by cases op <;> simp_all [target, isCall]
/-- An operation that calls nothing. -/
theorem WO_op {d c gd q op l e H K} (hc : isCall op = false) : WO C (⟨d, c, gd, q, op⟩ :: l) e H K =
    ifW (want e c) (bindO (aop e H op) fun r => Guards e H r.2 gd ∧ (q = true → Ext H r.2) ∧ WO C l (upd e d r.1) r.2 K) (WO C l (upd e d (.tup [])) H K) := by
  apply propext; constructor
  · rintro ⟨e', H', h, k⟩
    cases h with
    | pass hw h1 => exact .inr ⟨hw, _, _, h1, k⟩
    | op hw _ ho hg hq h1 => exact .inl ⟨hw, _, ho, hg, hq, _, _, h1, k⟩
    | call hw ht _ _ _ _ => rw [isCall_target ht] at hc; cases hc
  · rintro (⟨hw, ⟨v, H1⟩, ho, hg, hq, e', H', h, k⟩ | ⟨hw, e', H', h, k⟩)
    · exact ⟨_, _, .op hw hc ho hg hq h, k⟩
    · exact ⟨_, _, .pass hw h, k⟩
theorem WO_call {d c gd q op l e H K} (hc : isCall op = true) : WO C (⟨d, c, gd, q, op⟩ :: l) e H K =
    ifW (want e c) (bindO (target e op) fun r => CallK C r.1 r.2 H fun v H' => Guards e H H' gd ∧ (q = true → Ext H H') ∧ WO C l (upd e d v) H' K) (WO C l (upd e d (.tup [])) H K) := by
  apply propext; constructor
  · rintro ⟨e', H', h, k⟩
    cases h with
    | pass hw h1 => exact .inr ⟨hw, _, _, h1, k⟩
    | op _ hn _ _ _ _ => rw [hn] at hc; cases hc
    | call hw ht hcall hg hq h1 => exact .inl ⟨hw, _, ht, _, _, hcall, hg, hq, _, _, h1, k⟩
  · rintro (⟨hw, ⟨f, args⟩, ht, v, H1, hcall, hg, hq, e', H', h, k⟩ | ⟨hw, e', H', h, k⟩)
    · exact ⟨_, _, .call hw ht hcall hg hq h, k⟩
    · exact ⟨_, _, .pass hw h, k⟩

theorem W_mono {c e H} {Q Q' : Out → Env → AH → Prop} (h : W C c e H Q) (hq : ∀ o e H, Q o e H → Q' o e H) : W C c e H Q' :=
  let ⟨o, e', H', h, q⟩ := h; ⟨o, e', H', h, hq _ _ _ q⟩

/-- The end of a body. -/
def retK (rs : List ARes) (R : AV → AH → Prop) : Out → Env → AH → Prop
  | .norm, e, H | .ret, e, H => bindO (ares e H rs) fun v => R v H
  | .brk _, _, _ => False
theorem CallK_enter {f fn args H} {K : AV → AH → Prop} (hf : C f = some fn) (hn : args.length = fn.np) (h : W C fn.body (enterE 0 args) H (retK fn.res K)) : CallK C f args H K := by
  obtain ⟨o, e, H', h, q⟩ := h
  cases o with
  | norm => obtain ⟨v, hv, k⟩ := q; exact ⟨v, H', .enter hf hn h (.inl rfl) hv, k⟩
  | ret => obtain ⟨v, hv, k⟩ := q; exact ⟨v, H', .enter hf hn h (.inr rfl) hv, k⟩
  | brk k => exact q.elim
theorem CallK_mono {f args H} {K K' : AV → AH → Prop} (h : CallK C f args H K) (hk : ∀ v H', K v H' → K' v H') : CallK C f args H K' :=
  let ⟨v, H', h, k⟩ := h; ⟨v, H', h, hk _ _ k⟩
end rules

end Go.Proofs.YtdgmihohmkdpjaaDoor.AM
