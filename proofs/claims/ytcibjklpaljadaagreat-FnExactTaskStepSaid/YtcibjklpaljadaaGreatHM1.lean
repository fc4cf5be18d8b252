/-
  The abstract machine and its walks, merged by program out of smaller texts (part 1). No condition.
-/
import Derived.Below
import Derived.Calls
import Derived.Deep.AppendSrc
import Derived.Deep.MidRow
import Derived.KernelRfl
import Derived.Orders
import Derived.WalkKit
namespace Go.Proofs.YtcibjklpaljadaaGreat.AM
set_option linter.unusedSimpArgs false
set_option linter.unusedVariables false
open Go

inductive ACap where
  | ex (c : Nat)
  | lb (c sz : Nat)
  | ro

inductive AV where
  | b (b : Bool)
  | i (k : IntKind) (n : Int)
  | str (s : ByteArray)
  | ptr (b o : Nat)
  | nilp
  | sl (b o len : Nat) (cap : ACap)
  | esl
  | nils
  | fn (f : FuncId) (first cap : List AV)
  | nilf
  | agg (cs : List AV)
  | tup (vs : List AV)

abbrev AV.I (n : Int) : AV := .i .i64 n

def AV.cells : AV → List AV
  | .agg cs => cs
  | v => [v]

def AV.flat : AV → Bool
  | .agg _ | .tup _ => false
  | _ => true

def AV.isTup : AV → Bool
  | .tup _ => true
  | _ => false

inductive AX where
  | t (n : Nat)
  | c (v : AV)
  | g (n : Nat)

structure Blk where
  cells : List AV
  wr : Bool

structure AH where
  n : Nat
  bk : Nat → Option Blk

def AH.push (H : AH) (cs : List AV) : AH := ⟨H.n + 1, fun b => if b = H.n then some ⟨cs, true⟩ else H.bk b⟩
def AH.put (H : AH) (b : Nat) (o : Option Blk) : AH := ⟨H.n, fun b' => if b' = b then o else H.bk b'⟩
def AH.at (H : AH) (b : Nat) : Option (List AV) := (H.bk b).map (·.cells)

def seg (cs : List AV) (o n : Nat) : Option (List AV) := if o + n ≤ cs.length then some ((cs.drop o).take n) else none
def splice (cs : List AV) (o : Nat) (vs : List AV) : List AV := cs.take o ++ vs ++ cs.drop (o + vs.length)

def AH.load (H : AH) (b o : Nat) : Option AV := (H.bk b).bind fun k => k.cells[o]?
def AH.loadN (H : AH) (b o n : Nat) : Option (List AV) := (H.bk b).bind fun k => seg k.cells o n
def AH.store (H : AH) (b o : Nat) (vs : List AV) : Option AH :=
  match H.bk b with
  | some k => if k.wr = true ∧ o + vs.length ≤ k.cells.length then some (H.put b (some ⟨splice k.cells o vs, true⟩)) else none
  | none => none

abbrev Env := List (Nat × AV)

def get : Env → Nat → Option AV
  | [], _ => none
  | (s, v) :: e, t => if t = s then some v else get e t
def upd (e : Env) (d : Option Nat) (v : AV) : Env :=
  match d with
  | some t => (t, v) :: e
  | none => e
def keepE (ks : List Nat) (e : Env) : Env :=
  match ks with
  | [] => []
  | k :: ks => match get e k with
    | some v => (k, v) :: keepE ks e
    | none => keepE ks e

def ev (e : Env) : AX → Option AV
  | .t n => get e n
  | .c v => some v
  | .g n => some (.ptr n 0)
def evs (e : Env) : List AX → Option (List AV)
  | [] => some []
  | x :: xs => match ev e x with
    | some v => (evs e xs).map (v :: ·)
    | none => none

def ibits (k : IntKind) (f : BitVec k.bits → BitVec k.bits → BitVec k.bits) (x y : Int) : Option AV :=
  some (.i k (k.wrap ((f (BitVec.ofInt k.bits x) (BitVec.ofInt k.bits y)).toNat)))
def ibin (op : BinOp) (k : IntKind) (x y : Int) : Option AV :=
  match op with
  | .add => some (.i k (k.wrap (x + y)))
  | .sub => some (.i k (k.wrap (x - y)))
  | .mul => some (.i k (k.wrap (x * y)))
  | .quo => if y = 0 then none else some (.i k (k.wrap (x.tdiv y)))
  | .rem => if y = 0 then none else some (.i k (x.tmod y))
  | .and => ibits k (· &&& ·) x y
  | .or => ibits k (· ||| ·) x y
  | .xor => ibits k (· ^^^ ·) x y
  | .andNot => ibits k (fun a b => a &&& ~~~b) x y
  | .eql => some (.b (x == y))
  | .neq => some (.b (x != y))
  | .lss => some (.b (x < y))
  | .leq => some (.b (x ≤ y))
  | .gtr => some (.b (x > y))
  | .geq => some (.b (x ≥ y))
  | _ => none
def ishift (op : BinOp) (k : IntKind) (x y : Int) : Option AV :=
  if y < 0 then none else
  match op with
  | .shl => some (.i k (k.wrap (x * 2 ^ (min y.toNat k.bits))))
  | .shr => some (.i k (x.fdiv (2 ^ (min y.toNat k.bits))))
  | _ => none
def isShift : BinOp → Bool
  | .shl | .shr => true
  | _ => false
def abin (op : BinOp) : AV → AV → Option AV
  | .i k a, .i k' c => if isShift op = true then ishift op k a c else if k = k' then ibin op k a c else none
  | _, _ => none
def aun (op : UnOp) : AV → Option AV
  | .b x => match op with | .not => some (.b !x) | _ => none
  | .i k n => match op with
    | .neg => some (.i k (k.wrap (0 - n)))
    | _ => none
  | _ => none
def isNil : Nat → AV → Option Bool
  | 0, .nils => some true
  | 0, .sl .. => some false
  | 0, .esl => some false
  | 1, .nilp => some true
  | 1, .ptr .. => some false
  | 2, .nilf => some true
  | 2, .fn .. => some false
  | _, _ => none
def eqInts : List AV → List AV → Option Bool
  | [], [] => some true
  | .i k a :: xs, .i k' c :: ys => if k = k' then (eqInts xs ys).map fun r => (a == c) && r else none
  | _, _ => none

def fill (cs : List AV) : List (Nat × Nat × AV) → Option (List AV)
  | [] => some cs
  | (o, s, v) :: ps => if v.cells.length = s ∧ v.isTup = false ∧ o + s ≤ cs.length then fill (splice cs o v.cells) ps else none

def big : Nat := 8589934592

def alen : AV → Option Nat
  | .sl _ _ n _ => some n
  | .esl | .nils => some 0
  | _ => none
def elems (H : AH) (sz : Nat) : AV → Option (List AV)
  | .sl b o n _ => H.loadN b o (n * sz)
  | .esl | .nils => some []
  | _ => none

def aapp (H : AH) (sz : Nat) (s : AV) (n : Nat) (new : List AV) : Option (AV × AH) :=
  match s with
  | .nils => if n = 0 then some (.nils, H) else if n ≤ big then some (.sl H.n 0 n (.lb n sz), H.push new) else none
  | .esl => if n = 0 then some (.esl, H) else none
  | .sl b o len cap =>
    if n = 0 then some (s, H) else
    if big < len + n then none else
    match cap with
    | .ro => none
    | .ex c => if len + n ≤ c then (H.store b (o + len * sz) new).map fun H' => (.sl b o (len + n) (.ex c), H')
      else match H.loadN b o (len * sz) with
        | some old => some (.sl H.n 0 (len + n) (.lb (len + n) sz), H.push (old ++ new))
        | none => none
    | .lb c z => if z ≠ sz then none else
      if len + n ≤ c then (H.store b (o + len * sz) new).map fun H' => (.sl b o (len + n) (.lb c sz), H')
      else match H.bk b, H.loadN b o (len * sz) with
        | some k, some old => if k.wr = true then some (.sl H.n 0 (len + n) (.lb (len + n) sz), (H.put b none).push (old ++ new)) else none
        | _, _ => none
  | _ => none

def aint : Option AV → Option Nat
  | some (.i _ n) => if 0 ≤ n then some n.toNat else none
  | _ => none

def bnd (d : Nat) : Option AV → Option Nat
  | none => some d
  | some v => aint (some v)

def aslice (sz : Nat) (x : AV) (lo hi mx : Option AV) : Option AV :=
  match x with
  | .nils =>
    match bnd 0 lo, bnd 0 hi, mx with
    | some 0, some 0, none => some .nils
    | _, _, _ => none
  | .sl b o len cap =>
    match bnd 0 lo, bnd len hi, mx with
    | some l, some h, none =>
      if l ≤ h ∧ h ≤ len then
        match cap with
        | .ex c => some (.sl b (if c = l then o else o + l * sz) (h - l) (.ex (c - l)))
        | .lb c z => if l = 0 then some (.sl b o h (.lb c z)) else if l < len then (if z = sz then some (.sl b (o + l * sz) (h - l) (.lb (c - l) z)) else none) else some .esl
        | .ro => if l = 0 then some (.sl b o h .ro) else if l < len then some (.sl b (o + l * sz) (h - l) .ro) else some .esl
      else none
    | some l, some h, some m =>
      match hi, bnd 0 (some m) with
      | some _, some m => if l ≤ h ∧ h ≤ m ∧ m ≤ len then some (.sl b (if m = l then o else o + l * sz) (h - l) (.ex (m - l))) else none
      | _, _ => none
    | _, _, _ => none
  | .esl =>
    match bnd 0 lo, bnd 0 hi, mx with
    | some 0, some 0, none => some .esl
    | _, _, _ => none
  | _ => none

inductive AOp where
  | mv (x : AX)
  | pick (c a b : AX)
  | alloc (zero : List AV)
  | box (x : AX)
  | load (x : AX)
  | loadN (n : Nat) (x : AX)
  | store (n : Nat) (a v : AX)
  | nilc (x : AX)
  | bin (op : BinOp) (x y : AX)
  | eqB (ne : Bool) (x y : AX)
  | eqN (kd : Nat) (ne : Bool) (x y : AX)
  | eqA (n : Nat) (ne : Bool) (x y : AX)
  | un (op : UnOp) (x : AX)
  | conv (k : IntKind) (x : AX)
  | mksl (zero : List AV) (len cap : AX)
  | slice (sz : Nat) (x : AX) (lo hi mx : Option AX)
  | fldA (off : Nat) (x : AX)
  | fld (off : Nat) (x : AX)
  | fldN (off n : Nat) (x : AX)
  | idxA (sz : Nat) (x i : AX)
  | idxAA (sz len : Nat) (x i : AX)
  | idx (x i : AX)
  | ext (x : AX) (i : Nat)
  | mkfn (f : FuncId) (first cap : List AX)
  | build (zero : List AV) (parts : List (Nat × Nat × AX))
  | bsl (zero : List AV) (len : Nat) (parts : List (Nat × Nat × AX))
  | len (x : AX)
  | app (sz : Nat) (s x : AX)
  | appz (sz : Nat) (z : List AV) (s : AX) (n : Nat)
  | mx (x y : AX)
  | mn (x y : AX)
  | call (f : FuncId) (args : List AX)
  | callv (f : AX) (args : List AX)

def evParts (e : Env) : List (Nat × Nat × AX) → Option (List (Nat × Nat × AV))
  | [] => some []
  | (o, s, x) :: ps => match ev e x with
    | some v => (evParts e ps).map ((o, s, v) :: ·)
    | none => none

def evo (e : Env) : Option AX → Option (Option AV)
  | none => some none
  | some x => (ev e x).map some

def aop (e : Env) (H : AH) : AOp → Option (AV × AH)
  | .mv x => (ev e x).map (·, H)
  | .pick c a b => match ev e c with
    | some (.b true) => (ev e a).map (·, H)
    | some (.b false) => (ev e b).map (·, H)
    | _ => none
  | .alloc z => some (.ptr H.n 0, H.push z)
  | .box x => match ev e x with
    | some v => if v.isTup = true then none else some (.ptr H.n 0, H.push v.cells)
    | none => none
  | .load x => match ev e x with
    | some (.ptr b o) => (H.load b o).map (·, H)
    | _ => none
  | .loadN n x => match ev e x with
    | some (.ptr b o) => (H.loadN b o n).map fun cs => (.agg cs, H)
    | _ => none
  | .store n a v => match ev e a, ev e v with
    | some (.ptr b o), some v => if v.cells.length = n ∧ v.isTup = false then (H.store b o v.cells).map fun H' => (.tup [], H') else none
    | _, _ => none
  | .nilc x => match ev e x with
    | some (.ptr b o) => some (.ptr b o, H)
    | some (.fn f a c) => some (.fn f a c, H)
    | _ => none
  | .bin op x y => match ev e x, ev e y with
    | some a, some b => (abin op a b).map (·, H)
    | _, _ => none
  | .eqB ne x y => match ev e x, ev e y with
    | some (.b a), some (.b b) => some (.b (if ne then a != b else a == b), H)
    | _, _ => none
  | .eqN kd ne x y => match ev e x, ev e y with
    | some a, some b => match isNil kd a, isNil kd b with
      | some true, some q => some (.b (if ne then !q else q), H)
      | some p, some true => some (.b (if ne then !p else p), H)
      | _, _ => none
    | _, _ => none
  | .eqA n ne x y => match ev e x, ev e y with
    | some (.agg a), some (.agg b) => if a.length = n then (eqInts a b).map fun r => (.b (if ne then !r else r), H) else none
    | _, _ => none
  | .un op x => match ev e x with
    | some a => (aun op a).map (·, H)
    | _ => none
  | .conv k x => match ev e x with
    | some (.i _ n) => some (.i k (k.wrap n), H)
    | _ => none
  | .mksl z l c => match ev e l, ev e c with
    | some (.i _ l), some (.i _ c) => if 0 ≤ l ∧ l ≤ c ∧ c ≤ big then some (.sl H.n 0 l.toNat (.ex c.toNat), H.push (List.replicate c.toNat z).flatten) else none
    | _, _ => none
  | .slice sz x lo hi mx => match ev e x, evo e lo, evo e hi, evo e mx with
    | some x, some lo, some hi, some mx => (aslice sz x lo hi mx).map (·, H)
    | _, _, _, _ => none
  | .fldA off x => match ev e x with
    | some (.ptr b o) => some (.ptr b (o + off), H)
    | _ => none
  | .fld off x => match ev e x with
    | some (.agg cs) => (cs[off]?).map (·, H)
    | _ => none
  | .fldN off n x => match ev e x with
    | some (.agg cs) => (seg cs off n).map fun cs => (.agg cs, H)
    | _ => none
  | .idxA sz x i => match ev e x, ev e i with
    | some (.sl b o len _), some (.i _ n) => if 0 ≤ n ∧ n < len then some (.ptr b (o + n.toNat * sz), H) else none
    | _, _ => none
  | .idxAA sz len x i => match ev e x, ev e i with
    | some (.ptr b o), some (.i _ n) => if 0 ≤ n ∧ n < len then some (.ptr b (o + n.toNat * sz), H) else none
    | _, _ => none
  | .idx x i => match ev e x, ev e i with
    | some (.str s), some (.i _ n) => if h : 0 ≤ n ∧ n.toNat < s.size then some (.i .u8 (s[n.toNat]'h.2).toNat, H) else none
    | _, _ => none
  | .ext x i => match ev e x with
    | some (.tup vs) => (vs[i]?).map (·, H)
    | _ => none
  | .mkfn f first cap => match evs e first, evs e cap with
    | some a, some b => some (.fn f a b, H)
    | _, _ => none
  | .build z ps => match evParts e ps with
    | some ps => (fill z ps).map fun cs => (.agg cs, H)
    | none => none
  | .bsl z len ps => match evParts e ps with
    | some ps => (fill z ps).map fun cs => (.sl H.n 0 len (.ex len), H.push cs)
    | none => none
  | .len x => match ev e x with
    | some a => (alen a).map fun (n : Nat) => (AV.i .i64 (n : Int), H)
    | none => none
  | .app sz s x => match ev e s, ev e x with
    | some s, some x => match alen x, elems H sz x with
      | some n, some new => aapp H sz s n new
      | _, _ => none
    | _, _ => none
  | .appz sz z s n => match ev e s with
    | some s => aapp H sz s n (List.replicate n z).flatten
    | none => none
  | .mx x y => match ev e x, ev e y with
    | some (.i .i64 a), some (.i .i64 b) => some (.i .i64 (if a < b then b else a), H)
    | _, _ => none
  | .mn x y => match ev e x, ev e y with
    | some (.i .i64 a), some (.i .i64 b) => some (.i .i64 (if b < a then b else a), H)
    | _, _ => none
  | .call .. | .callv .. => none

structure AO where
  d : Option Nat := none
  c : Option (Nat × Bool) := none
  gd : List AX := []
  q : Bool := false
  op : AOp

inductive AC where
  | skip
  | ops (l : List AO)
  | seq (a b : AC)
  | cond (x : AX) (a b : AC)
  | block (id : Nat) (a : AC)
  | loop (a : AC)
  | exit (id : Nat)
  | ret
  | keep (ks : List Nat)
  | alt (c f : Nat) (a b : AC)
  | kill (t : Nat)

inductive Out where
  | norm
  | brk (id : Nat)
  | ret

inductive ARes where
  | t (n : Nat)
  | c (n size : Nat)
  | c1 (n : Nat)

structure AFn where
  np : Nat
  body : AC
  res : List ARes

def enterE : Nat → List AV → Env
  | _, [] => []
  | k, v :: vs => (k, v) :: enterE (k + 1) vs

def ares1 (e : Env) (H : AH) : ARes → Option AV
  | .t n => get e n
  | .c n size => match get e n with
    | some (.ptr b o) => (H.loadN b o size).map .agg
    | _ => none
  | .c1 n => match get e n with
    | some (.ptr b o) => H.load b o
    | _ => none
def aress (e : Env) (H : AH) : List ARes → Option (List AV)
  | [] => some []
  | r :: rs => match ares1 e H r with
    | some v => (aress e H rs).map (v :: ·)
    | none => none
def ares (e : Env) (H : AH) (rs : List ARes) : Option AV :=
  match aress e H rs with
  | some [v] => some v
  | some vs => some (.tup vs)
  | none => none

def Guards (e : Env) (H H' : AH) : List AX → Prop
  | [] => True
  | x :: xs => (match ev e x with | some (.ptr b _) => H'.bk b = H.bk b | some (.sl b _ _ _) => H'.bk b = H.bk b | _ => True) ∧ Guards e H H' xs
def Ext (H H' : AH) : Prop := H.n ≤ H'.n ∧ ∀ b, b < H.n → H'.bk b = H.bk b

theorem Ext.refl (H : AH) : Ext H H := ⟨Nat.le_refl _, fun _ _ => rfl⟩
theorem Ext.trans {a b c : AH} (h : Ext a b) (k : Ext b c) : Ext a c := ⟨Nat.le_trans h.1 k.1, fun x hx => (k.2 x (Nat.lt_of_lt_of_le hx h.1)).trans (h.2 x hx)⟩
theorem Ext.push (H : AH) (cs : List AV) : Ext H (H.push cs) := ⟨Nat.le_succ _, fun b hb => by simp [AH.push]; omega⟩

inductive Cfg where
  | code (c : AC) (e : Env) (H : AH)
  | ops (l : List AO) (e : Env) (H : AH)
  | call (f : FuncId) (args : List AV) (H : AH)
inductive Res where
  | out (o : Out) (e : Env) (H : AH)
  | ops (e : Env) (H : AH)
  | val (v : AV) (H : AH)

def isCall : AOp → Bool
  | .call .. | .callv .. => true
  | _ => false
def target (e : Env) : AOp → Option (FuncId × List AV)
  | .call f args => (evs e args).map (f, ·)
  | .callv x args => match ev e x, evs e args with
    | some (.fn f a c), some vs => some (f, a ++ vs ++ c)
    | _, _ => none
  | _ => none

def want (e : Env) : Option (Nat × Bool) → Option Bool
  | none => some true
  | some (t, b) => match get e t with
    | some (.b x) => some (x == b)
    | some _ => some false
    | none => none

def AH.skip (H : AH) : AH := (H.push []).put H.n none

inductive E (C : FuncId → Option AFn) : Cfg → Res → Prop
  | skip {e H} : E C (.code .skip e H) (.out .norm e H)
  | keep {ks e H} : E C (.code (.keep ks) e H) (.out .norm (keepE ks e) H)
  | ops {l e H e' H'} : E C (.ops l e H) (.ops e' H') → E C (.code (.ops l) e H) (.out .norm e' H')
  | alt {c f a b e H r} : get e c = none → get e f = none → E C (.code a e H.skip) r → E C (.code b e H.skip) r → E C (.code (.alt c f a b) e H) r
  | kill {t e H b o n c} : get e t = some (.sl b o n c) → E C (.code (.kill t) e H) (.out .norm e (H.put b none))
  | seqN {a b e H e' H' r} : E C (.code a e H) (.out .norm e' H') → E C (.code b e' H') r → E C (.code (.seq a b) e H) r
  | seqX {a b e H o e' H'} : E C (.code a e H) (.out o e' H') → o ≠ .norm → E C (.code (.seq a b) e H) (.out o e' H')
  | cond {x a b e H t r} : ev e x = some (.b t) → E C (.code (if t = true then a else b) e H) r → E C (.code (.cond x a b) e H) r
  | blockX {id a e H o e' H'} : E C (.code a e H) (.out o e' H') → o ≠ .brk id → E C (.code (.block id a) e H) (.out o e' H')
  | blockB {id a e H e' H'} : E C (.code a e H) (.out (.brk id) e' H') → E C (.code (.block id a) e H) (.out .norm e' H')
  | loopN {a e H e' H' r} : E C (.code a e H) (.out .norm e' H') → E C (.code (.loop a) e' H') r → E C (.code (.loop a) e H) r
  | loopX {a e H o e' H'} : E C (.code a e H) (.out o e' H') → o ≠ .norm → E C (.code (.loop a) e H) (.out o e' H')
  | exit {id e H} : E C (.code (.exit id) e H) (.out (.brk id) e H)
  | ret {e H} : E C (.code .ret e H) (.out .ret e H)
  | nil {e H} : E C (.ops [] e H) (.ops e H)
  | pass {o l e H r} : want e o.c = some false → E C (.ops l (upd e o.d (.tup [])) H) r → E C (.ops (o :: l) e H) r
  | op {o l e H v H' r} : want e o.c = some true → isCall o.op = false → aop e H o.op = some (v, H') → Guards e H H' o.gd → (o.q = true → Ext H H') →
      E C (.ops l (upd e o.d v) H') r → E C (.ops (o :: l) e H) r
  | call {o l e H f args v H' r} : want e o.c = some true → target e o.op = some (f, args) → E C (.call f args H) (.val v H') → Guards e H H' o.gd → (o.q = true → Ext H H') →
      E C (.ops l (upd e o.d v) H') r → E C (.ops (o :: l) e H) r
  | enter {f args H fn o e H' v} : C f = some fn → args.length = fn.np → E C (.code fn.body (enterE 0 args) H) (.out o e H') → (o = .norm ∨ o = .ret) → ares e H' fn.res = some v →
      E C (.call f args H) (.val v H')

def Gives (C : FuncId → Option AFn) (f : FuncId) (args : List AV) (H : AH) (v : AV) (H' : AH) : Prop := E C (.call f args H) (.val v H')

def W (C : FuncId → Option AFn) (c : AC) (e : Env) (H : AH) (Q : Out → Env → AH → Prop) : Prop := ∃ o e' H', E C (.code c e H) (.out o e' H') ∧ Q o e' H'
def WO (C : FuncId → Option AFn) (l : List AO) (e : Env) (H : AH) (K : Env → AH → Prop) : Prop := ∃ e' H', E C (.ops l e H) (.ops e' H') ∧ K e' H'

def seqK (C : FuncId → Option AFn) (b : AC) (Q : Out → Env → AH → Prop) : Out → Env → AH → Prop
  | .norm, e, H => W C b e H Q
  | o, e, H => Q o e H
def blockK (id : Nat) (Q : Out → Env → AH → Prop) : Out → Env → AH → Prop
  | .brk k, e, H => if k = id then Q .norm e H else Q (.brk k) e H
  | o, e, H => Q o e H
def loopK (C : FuncId → Option AFn) (a : AC) (Q : Out → Env → AH → Prop) : Out → Env → AH → Prop
  | .norm, e, H => W C (.loop a) e H Q
  | o, e, H => Q o e H
def opsK (Q : Out → Env → AH → Prop) : Env → AH → Prop := fun e H => Q .norm e H
def bindO {α : Type} (o : Option α) (k : α → Prop) : Prop := ∃ a, o = some a ∧ k a
def ifB (o : Option AV) (p q : Prop) : Prop := (o = some (.b true) ∧ p) ∨ (o = some (.b false) ∧ q)
def ifW (o : Option Bool) (p q : Prop) : Prop := (o = some true ∧ p) ∨ (o = some false ∧ q)
def CallK (C : FuncId → Option AFn) (f : FuncId) (args : List AV) (H : AH) (K : AV → AH → Prop) : Prop := ∃ v H', Gives C f args H v H' ∧ K v H'

section rules
variable {C : FuncId → Option AFn}

theorem bindO_some {α : Type} (a : α) (k : α → Prop) : bindO (some a) k = k a := by simp [bindO]
theorem ifB_true (p q : Prop) : ifB (some (.b true)) p q = p := by simp [ifB]
theorem ifB_false (p q : Prop) : ifB (some (.b false)) p q = q := by simp [ifB]
theorem ifW_true (p q : Prop) : ifW (some true) p q = p := by simp [ifW]
theorem ifW_false (p q : Prop) : ifW (some false) p q = q := by simp [ifW]
theorem W_skip {e H Q} : W C .skip e H Q = Q .norm e H := by
  apply propext; constructor
  · rintro ⟨o, e', H', h, q⟩; cases h; exact q
  · exact fun q => ⟨_, _, _, .skip, q⟩
theorem W_keep {ks e H Q} : W C (.keep ks) e H Q = Q .norm (keepE ks e) H := by
  apply propext; constructor
  · rintro ⟨o, e', H', h, q⟩; cases h; exact q
  · exact fun q => ⟨_, _, _, .keep, q⟩
theorem W_exit {id e H Q} : W C (.exit id) e H Q = Q (.brk id) e H := by
  apply propext; constructor
  · rintro ⟨o, e', H', h, q⟩; cases h; exact q
  · exact fun q => ⟨_, _, _, .exit, q⟩
theorem W_ret {e H Q} : W C .ret e H Q = Q .ret e H := by
  apply propext; constructor
  · rintro ⟨o, e', H', h, q⟩; cases h; exact q
  · exact fun q => ⟨_, _, _, .ret, q⟩
theorem W_ops {l e H Q} : W C (.ops l) e H Q = WO C l e H (opsK Q) := by
  apply propext; constructor
  · rintro ⟨o, e', H', h, q⟩; cases h with | ops h => exact ⟨_, _, h, q⟩
  · rintro ⟨e', H', h, q⟩; exact ⟨_, _, _, .ops h, q⟩
theorem W_seq {a b e H Q} : W C (.seq a b) e H Q = W C a e H (seqK C b Q) := by
  apply propext; constructor
  · rintro ⟨o, e', H', h, q⟩
    cases h with
    | seqN h1 h2 => exact ⟨_, _, _, h1, _, _, _, h2, q⟩
    | seqX h1 hn => exact ⟨_, _, _, h1, by cases o <;> first | exact absurd rfl hn | exact q⟩
  · rintro ⟨o, e', H', h, q⟩
    cases o with
    | norm => obtain ⟨o2, e2, H2, h2, q2⟩ := q; exact ⟨_, _, _, .seqN h h2, q2⟩
    | brk k => exact ⟨_, _, _, .seqX h (by simp), q⟩
    | ret => exact ⟨_, _, _, .seqX h (by simp), q⟩
theorem W_block {id a e H Q} : W C (.block id a) e H Q = W C a e H (blockK id Q) := by
  apply propext; constructor
  · rintro ⟨o, e', H', h, q⟩
    cases h with
    | blockX h1 hn =>
      refine ⟨_, _, _, h1, ?_⟩
      cases o with
      | norm => exact q
      | ret => exact q
      | brk k => simp only [blockK]; rw [if_neg (fun hk => hn (by rw [hk]))]; exact q
    | blockB h1 => exact ⟨_, _, _, h1, by simp only [blockK, if_true]; exact q⟩
  · rintro ⟨o, e', H', h, q⟩
    cases o with
    | norm => exact ⟨_, _, _, .blockX h (by simp), q⟩
    | ret => exact ⟨_, _, _, .blockX h (by simp), q⟩
    | brk k =>
      by_cases hk : k = id
      · subst hk; simp only [blockK, if_true] at q; exact ⟨_, _, _, .blockB h, q⟩
      · simp only [blockK, if_neg hk] at q; exact ⟨_, _, _, .blockX h (by simpa using hk), q⟩
theorem W_loop {a e H Q} : W C (.loop a) e H Q = W C a e H (loopK C a Q) := by
  apply propext; constructor
  · rintro ⟨o, e', H', h, q⟩
    cases h with
    | loopN h1 h2 => exact ⟨_, _, _, h1, _, _, _, h2, q⟩
    | loopX h1 hn => exact ⟨_, _, _, h1, by cases o <;> first | exact absurd rfl hn | exact q⟩
  · rintro ⟨o, e', H', h, q⟩
    cases o with
    | norm => obtain ⟨o2, e2, H2, h2, q2⟩ := q; exact ⟨_, _, _, .loopN h h2, q2⟩
    | brk k => exact ⟨_, _, _, .loopX h (by simp), q⟩
    | ret => exact ⟨_, _, _, .loopX h (by simp), q⟩
theorem W_cond {x a b e H Q} : W C (.cond x a b) e H Q = ifB (ev e x) (W C a e H Q) (W C b e H Q) := by
  apply propext; constructor
  · rintro ⟨o, e', H', h, q⟩
    cases h with
    | @cond _ _ _ _ _ t _ hx h1 =>
      cases t
      · exact .inr ⟨hx, _, _, _, by simpa using h1, q⟩
      · exact .inl ⟨hx, _, _, _, by simpa using h1, q⟩
  · rintro (⟨hx, o, e', H', h, q⟩ | ⟨hx, o, e', H', h, q⟩)
    · exact ⟨_, _, _, .cond hx (by simpa using h), q⟩
    · exact ⟨_, _, _, .cond hx (by simpa using h), q⟩
theorem WO_nil {e H K} : WO C [] e H K = K e H := by
  apply propext; constructor
  · rintro ⟨e', H', h, q⟩; cases h; exact q
  · exact fun q => ⟨_, _, .nil, q⟩
theorem isCall_target {e : Env} {op : AOp} {r} (h : target e op = some r) : isCall op = true := by cases op <;> simp_all [target, isCall]
theorem WO_op {d c gd q op l e H K} (hc : isCall op = false) : WO C (⟨d, c, gd, q, op⟩ :: l) e H K =
    ifW (want e c) (bindO (aop e H op) fun r => Guards e H r.2 gd ∧ (q = true → Ext H r.2) ∧ WO C l (upd e d r.1) r.2 K) (WO C l (upd e d (.tup [])) H K) := by
  apply propext; constructor
  · rintro ⟨e', H', h, k⟩
    cases h with
    | pass hw h1 => exact .inr ⟨hw, _, _, h1, k⟩
    | op hw _ ho hg hq h1 => exact .inl ⟨hw, _, ho, hg, hq, _, _, h1, k⟩
    | call hw ht _ _ _ _ => rw [isCall_target ht] at hc; cases hc
  · rintro (⟨hw, ⟨v, H1⟩, ho, hg, hq, e', H', h, k⟩ | ⟨hw, e', H', h, k⟩)
    · exact ⟨_, _, .op hw hc ho hg hq h, k⟩
    · exact ⟨_, _, .pass hw h, k⟩
theorem WO_call {d c gd q op l e H K} (hc : isCall op = true) : WO C (⟨d, c, gd, q, op⟩ :: l) e H K =
    ifW (want e c) (bindO (target e op) fun r => CallK C r.1 r.2 H fun v H' => Guards e H H' gd ∧ (q = true → Ext H H') ∧ WO C l (upd e d v) H' K) (WO C l (upd e d (.tup [])) H K) := by
  apply propext; constructor
  · rintro ⟨e', H', h, k⟩
    cases h with
    | pass hw h1 => exact .inr ⟨hw, _, _, h1, k⟩
    | op _ hn _ _ _ _ => rw [hn] at hc; cases hc
    | call hw ht hcall hg hq h1 => exact .inl ⟨hw, _, ht, _, _, hcall, hg, hq, _, _, h1, k⟩
  · rintro (⟨hw, ⟨f, args⟩, ht, v, H1, hcall, hg, hq, e', H', h, k⟩ | ⟨hw, e', H', h, k⟩)
    · exact ⟨_, _, .call hw ht hcall hg hq h, k⟩
    · exact ⟨_, _, .pass hw h, k⟩

def retK (rs : List ARes) (R : AV → AH → Prop) : Out → Env → AH → Prop
  | .norm, e, H | .ret, e, H => bindO (ares e H rs) fun v => R v H
  | .brk _, _, _ => False
theorem CallK_enter {f fn args H} {K : AV → AH → Prop} (hf : C f = some fn) (hn : args.length = fn.np) (h : W C fn.body (enterE 0 args) H (retK fn.res K)) : CallK C f args H K := by
  obtain ⟨o, e, H', h, q⟩ := h
  cases o with
  | norm => obtain ⟨v, hv, k⟩ := q; exact ⟨v, H', .enter hf hn h (.inl rfl) hv, k⟩
  | ret => obtain ⟨v, hv, k⟩ := q; exact ⟨v, H', .enter hf hn h (.inr rfl) hv, k⟩
  | brk k => exact q.elim
end rules

end Go.Proofs.YtcibjklpaljadaaGreat.AM
namespace Go.Proofs.YtcibjklpaljadaaGreat.AM
set_option linter.unusedSimpArgs false
set_option linter.unusedVariables false
open Go Go.RowKit

abbrev Rho := Nat → Option (Nat × Nat × Nat)
def Sub (ρ ρ' : Rho) : Prop := ∀ b r, ρ b = some r → ρ' b = some r
theorem Sub.refl (ρ : Rho) : Sub ρ ρ := fun _ _ h => h
theorem Sub.trans {a b c : Rho} (h : Sub a b) (k : Sub b c) : Sub a c := fun x r hx => k x r (h x r hx)
def Rho.add (ρ : Rho) (b : Nat) (r : Nat × Nat × Nat) : Rho := fun b' => if b' = b then some r else ρ b'
theorem Rho.add_same (ρ : Rho) (b r) : ρ.add b r b = some r := by simp [Rho.add]
theorem Rho.add_ne (ρ : Rho) {b b' : Nat} (r) (h : b' ≠ b) : ρ.add b r b' = ρ b' := by simp [Rho.add, h]

inductive VR (ρ : Rho) : AV → Value → Prop
  | b (x) : VR ρ (.b x) (.bool x)
  | i (k n) : VR ρ (.i k n) (.int k n)
  | str (s) : VR ρ (.str s) (.string s)
  | ptr {b o B o0 x} : ρ b = some (B, o0, x) → VR ρ (.ptr b o) (.pointer (some ⟨B, o0 + o, none⟩))
  | nilp : VR ρ .nilp (.pointer none)
  | slE {b o B o0 x len c} : ρ b = some (B, o0, x) → len ≤ c → VR ρ (.sl b o len (.ex c)) (.slice (some ⟨B, o0 + o, none⟩) len c)
  | slL {b o B o0 x len c c' sz} : ρ b = some (B, o0, x) → len ≤ c → c ≤ c' → o + c' * sz ≤ x → VR ρ (.sl b o len (.lb c sz)) (.slice (some ⟨B, o0 + o, none⟩) len c')
  | slR {b o B o0 x len c'} : ρ b = some (B, o0, x) → len ≤ c' → VR ρ (.sl b o len .ro) (.slice (some ⟨B, o0 + o, none⟩) len c')
  | esl (a c) : VR ρ .esl (.slice (some a) 0 c)
  | nils : VR ρ .nils (.slice none 0 0)
  | fn {f a c a' c'} : a.length = a'.size → (∀ (i : Nat) x v, a[i]? = some x → a'.toList[i]? = some v → VR ρ x v) →
      c.length = c'.size → (∀ (i : Nat) x v, c[i]? = some x → c'.toList[i]? = some v → VR ρ x v) → VR ρ (.fn f a c) (.func (.func f) a' c')
  | nilf : VR ρ .nilf .nilFunc
  | agg {cs cs'} : cs.all AV.flat = true → cs.length = cs'.size → (∀ (i : Nat) x v, cs[i]? = some x → cs'.toList[i]? = some v → VR ρ x v) → VR ρ (.agg cs) (.agg cs')
  | tup {cs cs'} : cs.length = cs'.size → (∀ (i : Nat) x v, cs[i]? = some x → cs'.toList[i]? = some v → VR ρ x v) → VR ρ (.tup cs) (.tuple cs')

def VRs (ρ : Rho) (l : List AV) (l' : List Value) : Prop := l.length = l'.length ∧ ∀ (i : Nat) x v, l[i]? = some x → l'[i]? = some v → VR ρ x v

theorem VR.mono {ρ ρ' : Rho} (h : Sub ρ ρ') {a v} (k : VR ρ a v) : VR ρ' a v := by
  induction k with
  | b x => exact .b x
  | i k n => exact .i k n
  | str s => exact .str s
  | ptr hb => exact .ptr (h _ _ hb)
  | nilp => exact .nilp
  | slE hb hl => exact .slE (h _ _ hb) hl
  | slL hb a b c => exact .slL (h _ _ hb) a b c
  | slR hb a => exact .slR (h _ _ hb) a
  | esl a c => exact .esl a c
  | nils => exact .nils
  | fn h1 _ h3 _ i1 i2 => exact .fn h1 i1 h3 i2
  | nilf => exact .nilf
  | agg hf h1 _ i1 => exact .agg hf h1 i1
  | tup h1 _ i1 => exact .tup h1 i1

theorem VRs.mono {ρ ρ' : Rho} (h : Sub ρ ρ') {l l'} (k : VRs ρ l l') : VRs ρ' l l' := ⟨k.1, fun i x v a b => (k.2 i x v a b).mono h⟩
theorem VRs.nil (ρ : Rho) : VRs ρ [] [] := ⟨rfl, fun i x v h => by simp at h⟩
theorem VRs.cons {ρ : Rho} {a v l l'} (h : VR ρ a v) (k : VRs ρ l l') : VRs ρ (a :: l) (v :: l') := by
  refine ⟨by simp [k.1], fun i x w h1 h2 => ?_⟩
  cases i with
  | zero => simp at h1 h2; subst h1; subst h2; exact h
  | succ i => exact k.2 i x w (by simpa using h1) (by simpa using h2)
theorem VRs.append {ρ : Rho} {l l' m m'} (h : VRs ρ l l') (k : VRs ρ m m') : VRs ρ (l ++ m) (l' ++ m') := by
  refine ⟨by simp [h.1, k.1], fun i x w h1 h2 => ?_⟩
  by_cases hi : i < l.length
  · rw [List.getElem?_append_left hi] at h1
    rw [List.getElem?_append_left (by rw [← h.1]; exact hi)] at h2
    exact h.2 i x w h1 h2
  · rw [List.getElem?_append_right (by omega)] at h1
    rw [List.getElem?_append_right (by rw [← h.1]; omega)] at h2
    rw [← h.1] at h2
    exact k.2 _ x w h1 h2
theorem VRs.take {ρ : Rho} {l l'} (h : VRs ρ l l') (n : Nat) : VRs ρ (l.take n) (l'.take n) := by
  refine ⟨by simp [h.1], fun i x w h1 h2 => ?_⟩
  rw [List.getElem?_take] at h1 h2
  split at h1
  · rw [if_pos ‹_›] at h2; exact h.2 i x w h1 h2
  · cases h1
theorem VRs.drop {ρ : Rho} {l l'} (h : VRs ρ l l') (n : Nat) : VRs ρ (l.drop n) (l'.drop n) := by
  refine ⟨by simp [h.1], fun i x w h1 h2 => ?_⟩
  rw [List.getElem?_drop] at h1 h2
  exact h.2 _ x w h1 h2
theorem VRs.get {ρ : Rho} {l l'} (h : VRs ρ l l') {i : Nat} {x} (hx : l[i]? = some x) : ∃ v, l'[i]? = some v ∧ VR ρ x v := by
  have hi : i < l'.length := by rw [← h.1]; exact (List.getElem?_eq_some_iff.1 hx).1
  exact ⟨l'[i], List.getElem?_eq_getElem hi, h.2 i x _ hx (List.getElem?_eq_getElem hi)⟩
theorem VRs.cons_inv {ρ : Rho} {a l l'} (h : VRs ρ (a :: l) l') : ∃ v m, l' = v :: m ∧ VR ρ a v ∧ VRs ρ l m := by
  cases l' with
  | nil => exact absurd h.1 (by simp)
  | cons v m => exact ⟨v, m, rfl, h.2 0 a v rfl rfl, by simpa using h.1, fun i x w h1 h2 => h.2 (i + 1) x w (by simpa using h1) (by simpa using h2)⟩
theorem VRs.nil_inv {ρ : Rho} {l'} (h : VRs ρ [] l') : l' = [] := by
  cases l' with
  | nil => rfl
  | cons v m => exact absurd h.1 (by simp)
theorem VRs.flatten_replicate {ρ : Rho} {z z'} (h : VRs ρ z z') (n : Nat) : VRs ρ (List.replicate n z).flatten (List.replicate n z').flatten := by
  induction n with
  | zero => exact VRs.nil ρ
  | succ n ih => simp only [List.replicate_succ, List.flatten_cons]; exact h.append ih

theorem VR.cells {ρ : Rho} {a v} (h : VR ρ a v) : VRs ρ a.cells v.cells.toList := by
  cases h with
  | agg hf h1 h2 => exact ⟨by simpa [AV.cells, Value.cells] using h1, h2⟩
  | tup h1 h2 => exact VRs.cons (.tup h1 h2) (VRs.nil ρ)
  | fn h1 h2 h3 h4 => exact VRs.cons (.fn h1 h2 h3 h4) (VRs.nil ρ)
  | b x => exact VRs.cons (.b x) (VRs.nil ρ)
  | i k n => exact VRs.cons (.i k n) (VRs.nil ρ)
  | str s => exact VRs.cons (.str s) (VRs.nil ρ)
  | ptr hb => exact VRs.cons (.ptr hb) (VRs.nil ρ)
  | nilp => exact VRs.cons .nilp (VRs.nil ρ)
  | slE hb hl => exact VRs.cons (.slE hb hl) (VRs.nil ρ)
  | slL hb x y z => exact VRs.cons (.slL hb x y z) (VRs.nil ρ)
  | slR hb x => exact VRs.cons (.slR hb x) (VRs.nil ρ)
  | esl x c => exact VRs.cons (.esl x c) (VRs.nil ρ)
  | nils => exact VRs.cons .nils (VRs.nil ρ)
  | nilf => exact VRs.cons .nilf (VRs.nil ρ)
theorem VR.flat {ρ : Rho} {a v} (h : VR ρ a v) (ht : a.isTup = false) : a.cells.all AV.flat = true := by
  cases h <;> first | rfl | assumption | (simp [AV.isTup] at ht)
theorem VR.oneCell {ρ : Rho} {a v} (h : VR ρ a v) (hf : a.flat = true) : v.oneCell' = true := by
  cases h <;> first | rfl | (simp [AV.flat] at hf)
theorem VRs.oneCell {ρ : Rho} {l l'} (h : VRs ρ l l') (hf : l.all AV.flat = true) : ∀ v ∈ l', v.oneCell' = true := by
  intro v hv
  obtain ⟨i, hi, rfl⟩ := List.mem_iff_getElem.1 hv
  have hi' : i < l.length := by rw [h.1]; exact hi
  exact (h.2 i _ _ (List.getElem?_eq_getElem hi') (List.getElem?_eq_getElem hi)).oneCell (List.all_eq_true.1 hf _ (List.getElem_mem hi'))

def RowIn (ρ : Rho) (w : World) (B o : Nat) (cs : List AV) : Prop := ∀ (i : Nat) a, cs[i]? = some a → a.flat = true ∧ ∃ v, w.cell? ⟨B, o + i, none⟩ = some v ∧ VR ρ a v

structure RelH (NG : Nat) (ρ : Rho) (H : AH) (w : World) : Prop where
  wf : ∀ b, H.n ≤ b → H.bk b = none
  glob : ∀ g, g < NG → ∃ x, ρ g = some (g, 0, x)
  dom : ∀ b B o x, ρ b = some (B, o, x) → B < w.heap.size
  row : ∀ b B o x k, ρ b = some (B, o, x) → H.bk b = some k → k.cells.length ≤ x ∧ RowIn ρ w B o k.cells
  own : ∀ b B o x k, ρ b = some (B, o, x) → H.bk b = some k → k.wr = true → ∃ cs el, w.heap[B]? = some (.cells cs el (0, 0)) ∧ o + x ≤ cs.size
  dis : ∀ b b' B o x o' x' k k', b ≠ b' → ρ b = some (B, o, x) → ρ b' = some (B, o', x') → H.bk b = some k → H.bk b' = some k' → k.wr = false

def Quiet (ρ : Rho) (H : AH) (B : Nat) : Prop := ∀ b o x k, ρ b = some (B, o, x) → H.bk b = some k → k.wr = false

def Fresh (ρ : Rho) (n n' : Nat) : Prop := ∀ b, n ≤ b → b < n' → ρ b = none

structure Fr (ρ : Rho) (H : AH) (w w' : World) : Prop where
  os : w'.os = w.os
  tape : w'.tape = w.tape
  output : w'.output = w.output
  size : w.heap.size ≤ w'.heap.size
  heap : ∀ B, B < w.heap.size → Quiet ρ H B → w'.heap[B]? = w.heap[B]?

def NewB (ρ : Rho) (H : AH) (w : World) (ρ' : Rho) (n' : Nat) : Prop := ∀ b B o x, ρ' b = some (B, o, x) → ρ b = some (B, o, x) ∨ (H.n ≤ b ∧ b < n' ∧ (w.heap.size ≤ B ∨ ¬ Quiet ρ H B))
theorem NewB.refl (ρ : Rho) (H : AH) (w : World) (n : Nat) : NewB ρ H w ρ n := fun _ _ _ _ h => .inl h
theorem NewB.add (ρ : Rho) (H : AH) (w : World) {B o x : Nat} (h : w.heap.size ≤ B ∨ ¬ Quiet ρ H B) : NewB ρ H w (ρ.add H.n (B, o, x)) (H.n + 1) := by
  intro b B' o' x' hb
  by_cases e1 : b = H.n
  · subst e1
    rw [Rho.add_same] at hb; cases hb
    exact .inr ⟨Nat.le_refl _, Nat.lt_succ_self _, h⟩
  · rw [Rho.add_ne _ _ e1] at hb; exact .inl hb

theorem Fr.refl (ρ : Rho) (H : AH) (w : World) : Fr ρ H w w := ⟨rfl, rfl, rfl, Nat.le_refl _, fun _ _ _ => rfl⟩

theorem cell?_heap {w w' : World} (B : Nat) (h : w'.heap[B]? = w.heap[B]?) (o : Nat) : w'.cell? ⟨B, o, none⟩ = w.cell? ⟨B, o, none⟩ := by simp [World.cell?, h]

theorem RowIn.mono {ρ ρ' : Rho} (h : Sub ρ ρ') {w w' : World} {B o cs} (hB : w'.heap[B]? = w.heap[B]?) (k : RowIn ρ w B o cs) : RowIn ρ' w' B o cs :=
  fun i a ha => let ⟨f, v, hv, hr⟩ := k i a ha; ⟨f, v, (cell?_heap B hB _).trans hv, hr.mono h⟩

theorem RelH.heap_eq {NG ρ H w w'} (h : RelH NG ρ H w) (e : w'.heap = w.heap) : RelH NG ρ H w' := by
  have e' : ∀ B : Nat, w'.heap[B]? = w.heap[B]? := fun B => by rw [e]
  exact ⟨h.wf, h.glob, fun b B o x hb => by rw [e]; exact h.dom b B o x hb, fun b B o x k hb hk => ⟨(h.row b B o x k hb hk).1, (h.row b B o x k hb hk).2.mono (Sub.refl _) (e' B)⟩,
    fun b B o x k hb hk hw => by rw [e']; exact h.own b B o x k hb hk hw, h.dis⟩

theorem add_sub {ρ : Rho} {n : Nat} (h : ρ n = none) (r) : Sub ρ (ρ.add n r) := fun b s hb => by
  rw [Rho.add_ne _ _ (fun e => by subst e; rw [h] at hb; cases hb)]; exact hb

theorem RelH.push {NG ρ H w} (h : RelH NG ρ H w) (hn : ρ H.n = none) {cs : List AV} {vs : List Value} (hv : VRs ρ cs vs) (hf : cs.all AV.flat = true) (rest : List Value) (el : TypeId) :
    RelH NG (ρ.add H.n (w.heap.size, 0, vs.length + rest.length)) (H.push cs) (w.alloc (.cells (vs ++ rest).toArray el)) := by
  have hs := add_sub hn (w.heap.size, 0, vs.length + rest.length)
  have hold : ∀ B, B < w.heap.size → (w.alloc (.cells (vs ++ rest).toArray el)).heap[B]? = w.heap[B]? := fun B hB => Below.heap_alloc w _ B hB
  have hnew : (w.alloc (.cells (vs ++ rest).toArray el)).heap[w.heap.size]? = some (.cells (vs ++ rest).toArray el) := by
    show (w.heap.push _)[w.heap.size]? = _
    rw [Array.getElem?_push, if_pos rfl]
  refine ⟨fun b hb => ?_, ?_, ?_, ?_, ?_, ?_⟩
  · have hb' : H.n + 1 ≤ b := hb
    simp only [AH.push]; rw [if_neg (by omega)]; exact h.wf b (by omega)
  · intro g hg
    obtain ⟨x, hx⟩ := h.glob g hg
    exact ⟨x, hs _ _ hx⟩
  · intro b B o x hb
    show B < (w.heap.push _).size
    rw [Array.size_push]
    by_cases e : b = H.n
    · subst e; rw [Rho.add_same] at hb; cases hb; omega
    · rw [Rho.add_ne _ _ e] at hb; have := h.dom b B o x hb; omega
  · intro b B o x k hb hk
    by_cases e : b = H.n
    · subst e
      rw [Rho.add_same] at hb; cases hb
      have hk' : k = ⟨cs, true⟩ := by simpa [AH.push] using hk.symm
      subst hk'
      refine ⟨by show cs.length ≤ _; rw [hv.1]; omega, fun i a ha => ⟨List.all_eq_true.1 hf a (List.mem_of_getElem? ha), ?_⟩⟩
      obtain ⟨v, hv1, hv2⟩ := hv.get ha
      have hi : i < vs.length := (List.getElem?_eq_some_iff.1 hv1).1
      refine ⟨v, ?_, hv2.mono hs⟩
      simp only [World.cell?, hnew, Nat.zero_add, Option.isSome_none, Bool.false_eq_true, if_false, List.getElem?_toArray]
      rw [List.getElem?_append_left hi]; exact hv1
    · rw [Rho.add_ne _ _ e] at hb
      have hk' : H.bk b = some k := by simpa [AH.push, e] using hk
      have := h.row b B o x k hb hk'
      exact ⟨this.1, this.2.mono hs (hold B (h.dom b B o x hb))⟩
  · intro b B o x k hb hk hw
    by_cases e : b = H.n
    · subst e
      rw [Rho.add_same] at hb; cases hb
      exact ⟨_, _, hnew, by simp⟩
    · rw [Rho.add_ne _ _ e] at hb
      have hk' : H.bk b = some k := by simpa [AH.push, e] using hk
      rw [hold B (h.dom b B o x hb)]
      exact h.own b B o x k hb hk' hw
  · intro b b' B o x o' x' k k' hne hb hb' hk hk'
    by_cases e : b = H.n
    · subst e
      rw [Rho.add_same] at hb; cases hb
      rw [Rho.add_ne _ _ (Ne.symm hne)] at hb'
      exact absurd (h.dom _ _ _ _ hb') (Nat.lt_irrefl _)
    · rw [Rho.add_ne _ _ e] at hb
      have hk1 : H.bk b = some k := by simpa [AH.push, e] using hk
      by_cases e' : b' = H.n
      · subst e'
        rw [Rho.add_same] at hb'; cases hb'
        exact absurd (h.dom _ _ _ _ hb) (Nat.lt_irrefl _)
      · rw [Rho.add_ne _ _ e'] at hb'
        have hk2 : H.bk b' = some k' := by simpa [AH.push, e'] using hk'
        exact h.dis b b' B o x o' x' k k' hne hb hb' hk1 hk2

theorem Fr.alloc (ρ : Rho) (H : AH) (w : World) (o : Obj) : Fr ρ H w (w.alloc o) :=
  ⟨rfl, rfl, rfl, by show _ ≤ (w.heap.push o).size; rw [Array.size_push]; omega, fun B hB _ => Below.heap_alloc w o B hB⟩
theorem Fr.drew (ρ : Rho) (H : AH) (w : World) : Fr ρ H w w.drew := ⟨rfl, rfl, rfl, Nat.le_refl _, fun _ _ _ => rfl⟩

theorem cell?_setRow (w : World) (B : Nat) (cs cs' : Array Value) (el : TypeId) (fr) (h : w.heap[B]? = some (.cells cs el fr)) (o : Nat) : (w.setRow B cs').cell? ⟨B, o, none⟩ = cs'[o]? := by
  simp [World.cell?, setRow_heap w B cs cs' el fr h]

theorem splice_get {α : Type} (l : List α) (o : Nat) (vs : List α) (h : o + vs.length ≤ l.length) (i : Nat) :
    (l.take o ++ vs ++ l.drop (o + vs.length))[i]? = if i < o then l[i]? else if i < o + vs.length then vs[i - o]? else l[i]? := by
  by_cases h1 : i < o
  · rw [if_pos h1, List.append_assoc, List.getElem?_append_left (by simp; omega), List.getElem?_take, if_pos h1]
  · rw [if_neg h1, List.append_assoc, List.getElem?_append_right (by simp; omega)]
    have e : (l.take o).length = o := by simp; omega
    rw [e]
    by_cases h2 : i < o + vs.length
    · rw [if_pos h2, List.getElem?_append_left (by omega)]
    · rw [if_neg h2, List.getElem?_append_right (by omega), List.getElem?_drop]
      congr 1; omega

theorem RelH.store {NG ρ H w} (h : RelH NG ρ H w) {b o B o0 x : Nat} {k : Blk} (hb : ρ b = some (B, o0, x)) (hk : H.bk b = some k) (hw : k.wr = true) {cur : Array Value} {el : TypeId}
    (hc : w.heap[B]? = some (.cells cur el (0, 0))) (hx : o0 + x ≤ cur.size)
    {cs : List AV} {vs : List Value} (hv : VRs ρ cs vs) (hf : cs.all AV.flat = true) (hfit : o + cs.length ≤ k.cells.length) :
    RelH NG ρ (H.put b (some ⟨splice k.cells o cs, true⟩)) (w.setRow B (cur.toList.take (o0 + o) ++ vs ++ cur.toList.drop (o0 + o + vs.length)).toArray) := by
  have hkx := (h.row b B o0 x k hb hk).1
  have hother : ∀ b' B' o' x' k', b' ≠ b → ρ b' = some (B', o', x') → H.bk b' = some k' → B' ≠ B := by
    intro b' B' o' x' k' hne hb' hk' e
    subst e
    have := h.dis b b' B' o0 x o' x' k k' (Ne.symm hne) hb hb' hk hk'
    rw [hw] at this; cases this
  have hlen : vs.length = cs.length := hv.1.symm
  have hsz : o0 + o + vs.length ≤ cur.toList.length := by have e0 : cur.toList.length = cur.size := Array.length_toList; omega
  have hbn : b < H.n := by
    rcases Nat.lt_or_ge b H.n with q | q
    · exact q
    · rw [h.wf b q] at hk; cases hk
  refine ⟨fun b' hb' => by have hb2 : H.n ≤ b' := hb'; simp only [AH.put]; rw [if_neg (by omega)]; exact h.wf b' hb2, h.glob, fun b B o x hb => by rw [setRow_size]; exact h.dom b B o x hb, ?_, ?_, ?_⟩
  · intro b' B' o' x' k' hb' hk'
    by_cases e : b' = b
    · subst e
      rw [hb] at hb'; cases hb'
      have hk2 : k' = ⟨splice k.cells o cs, true⟩ := by simpa [AH.put] using hk'.symm
      subst hk2
      have hl : (splice k.cells o cs).length = k.cells.length := by simp [splice]; omega
      refine ⟨by show (splice k.cells o cs).length ≤ _; omega, fun i a ha => ?_⟩
      have ha' : (splice k.cells o cs)[i]? = some a := ha
      rw [splice, splice_get _ _ _ hfit] at ha'
      have hcell := cell?_setRow w B cur (cur.toList.take (o0 + o) ++ vs ++ cur.toList.drop (o0 + o + vs.length)).toArray el (0, 0) hc (o0 + i)
      rw [List.getElem?_toArray, splice_get _ _ _ hsz] at hcell
      by_cases h1 : i < o
      · rw [if_pos h1] at ha'
        rw [if_pos (by omega)] at hcell
        obtain ⟨f, v, hv1, hv2⟩ := (h.row b' B o0 x k hb hk).2 i a ha'
        refine ⟨f, v, ?_, hv2⟩
        rw [hcell, ← hv1]; simp [World.cell?, hc]
      · rw [if_neg h1] at ha'
        rw [if_neg (by omega)] at hcell
        by_cases h2 : i < o + cs.length
        · rw [if_pos h2] at ha'
          rw [if_pos (by omega)] at hcell
          obtain ⟨v, hv1, hv2⟩ := hv.get ha'
          refine ⟨List.all_eq_true.1 hf a (List.mem_of_getElem? ha'), v, ?_, hv2⟩
          rw [hcell, ← hv1]; congr 1; omega
        · rw [if_neg h2] at ha'
          rw [if_neg (by omega)] at hcell
          obtain ⟨f, v, hv1, hv2⟩ := (h.row b' B o0 x k hb hk).2 i a ha'
          refine ⟨f, v, ?_, hv2⟩
          rw [hcell, ← hv1]; simp [World.cell?, hc]
    · have hk2 : H.bk b' = some k' := by simpa [AH.put, e] using hk'
      have hB := hother b' B' o' x' k' e hb' hk2
      exact ⟨(h.row b' B' o' x' k' hb' hk2).1, (h.row b' B' o' x' k' hb' hk2).2.mono (Sub.refl _) (setRow_other w B B' _ hB)⟩
  · intro b' B' o' x' k' hb' hk' hw'
    by_cases e : b' = b
    · subst e
      rw [hb] at hb'; cases hb'
      refine ⟨_, _, setRow_heap w B cur _ el (0, 0) hc, ?_⟩
      have e3 : (cur.toList.take (o0 + o) ++ vs ++ cur.toList.drop (o0 + o + vs.length)).length = cur.size := by simp only [List.length_append, List.length_take, List.length_drop, Array.length_toList] at hsz ⊢; omega
      rw [List.size_toArray, e3]; exact hx
    · have hk2 : H.bk b' = some k' := by simpa [AH.put, e] using hk'
      rw [setRow_other w B B' _ (hother b' B' o' x' k' e hb' hk2)]
      exact h.own b' B' o' x' k' hb' hk2 hw'
  · intro b1 b2 B' o1 x1 o2 x2 k1 k2 hne h1 h2 hk1 hk2
    by_cases e1 : b1 = b
    · subst e1
      have hk2' : H.bk b2 = some k2 := by simpa [AH.put, Ne.symm hne] using hk2
      rw [hb] at h1; cases h1
      exact absurd rfl (hother b2 B o2 x2 k2 (Ne.symm hne) h2 hk2')
    · have hk1' : H.bk b1 = some k1 := by simpa [AH.put, e1] using hk1
      by_cases e2 : b2 = b
      · subst e2
        rw [hb] at h2; cases h2
        exact absurd rfl (hother b1 B o1 x1 k1 e1 h1 hk1')
      · have hk2' : H.bk b2 = some k2 := by simpa [AH.put, e2] using hk2
        exact h.dis b1 b2 B' o1 x1 o2 x2 k1 k2 hne h1 h2 hk1' hk2'

theorem Fr.setRow {NG ρ H w} (_ : RelH NG ρ H w) {b B o0 x : Nat} {k : Blk} (hb : ρ b = some (B, o0, x)) (hk : H.bk b = some k) (hw : k.wr = true) (cs : Array Value) : Fr ρ H w (w.setRow B cs) := by
  refine ⟨rfl, rfl, rfl, by simp, fun B' hB' q => setRow_other w B B' cs ?_⟩
  intro e
  subst e
  have := q b o0 x k hb hk
  rw [hw] at this; cases this

theorem RelH.kill {NG ρ H w} (h : RelH NG ρ H w) (b : Nat) : RelH NG ρ (H.put b none) w := by
  have hk : ∀ b' k, (H.put b none).bk b' = some k → b' ≠ b ∧ H.bk b' = some k := by
    intro b' k hk
    by_cases e : b' = b
    · subst e; simp [AH.put] at hk
    · exact ⟨e, by simpa [AH.put, e] using hk⟩
  exact ⟨fun b' hb' => by simp only [AH.put]; split <;> first | rfl | exact h.wf b' hb', h.glob, h.dom, fun b' B o x k hb hk' => h.row b' B o x k hb (hk _ _ hk').2, fun b' B o x k hb hk' => h.own b' B o x k hb (hk _ _ hk').2,
    fun b1 b2 B o x o' x' k k' hne h1 h2 hk1 hk2 => h.dis b1 b2 B o x o' x' k k' hne h1 h2 (hk _ _ hk1).2 (hk _ _ hk2).2⟩

theorem RelH.take {NG ρ H w} (h : RelH NG ρ H w) (hfr : ρ H.n = none) {b o B o0 x : Nat} {k : Blk} (hb : ρ b = some (B, o0, x)) (hk : H.bk b = some k) (hw : k.wr = true) {cur : Array Value} {el : TypeId}
    (hc : w.heap[B]? = some (.cells cur el (0, 0))) (hx : o0 + x ≤ cur.size) {old cs : List AV} {vs : List Value} (hold : seg k.cells o old.length = some old)
    (hv : VRs ρ cs vs) (hf : cs.all AV.flat = true) (hfit : o + old.length + cs.length ≤ x) :
    RelH NG (ρ.add H.n (B, o0 + o, x - o)) ((H.put b none).push (old ++ cs)) (w.setRow B (cur.toList.take (o0 + o + old.length) ++ vs ++ cur.toList.drop (o0 + o + old.length + vs.length)).toArray) := by
  have hkill := h.kill b
  have hother : ∀ b' B' o' x' k', b' ≠ b → ρ b' = some (B', o', x') → H.bk b' = some k' → B' ≠ B := by
    intro b' B' o' x' k' hne hb' hk' e
    subst e
    have := h.dis b b' B' o0 x o' x' k k' (Ne.symm hne) hb hb' hk hk'
    rw [hw] at this; cases this
  have hs : Sub ρ (ρ.add H.n (B, o0 + o, x - o)) := add_sub hfr _
  have hlen : vs.length = cs.length := hv.1.symm
  have hsz : o0 + o + old.length + vs.length ≤ cur.toList.length := by have e0 : cur.toList.length = cur.size := Array.length_toList; omega
  have hbk : ∀ b' k', b' ≠ H.n → ((H.put b none).push (old ++ cs)).bk b' = some k' → b' ≠ b ∧ H.bk b' = some k' := by
    intro b' k' hne hk'
    have : (if b' = b then none else H.bk b') = some k' := by simpa [AH.push, AH.put, hne] using hk'
    by_cases e : b' = b
    · rw [if_pos e] at this; cases this
    · rw [if_neg e] at this; exact ⟨e, this⟩
  refine ⟨fun b' hb' => ?_, ?_, ?_, ?_, ?_, ?_⟩
  · have hb2 : H.n + 1 ≤ b' := hb'
    show (if b' = H.n then some (⟨old ++ cs, true⟩ : Blk) else if b' = b then none else H.bk b') = none
    rw [if_neg (show ¬ b' = H.n by omega)]
    split
    · rfl
    · exact h.wf b' (by omega)
  · intro g hg
    obtain ⟨y, hy⟩ := h.glob g hg
    exact ⟨y, hs _ _ hy⟩
  · intro b' B' o' x' hb'
    rw [setRow_size]
    by_cases e : b' = H.n
    · subst e; rw [Rho.add_same] at hb'; cases hb'; exact h.dom b B o0 x hb
    · rw [Rho.add_ne _ _ e] at hb'; exact h.dom b' B' o' x' hb'
  · intro b' B' o' x' k' hb' hk'
    by_cases e : b' = H.n
    · subst e
      rw [Rho.add_same] at hb'; cases hb'
      have hk2 : k' = ⟨old ++ cs, true⟩ := by simpa [AH.push, AH.put] using hk'.symm
      subst hk2
      refine ⟨by simp only [List.length_append]; omega, fun i a ha => ?_⟩
      have ha' : (old ++ cs)[i]? = some a := ha
      have hcell := cell?_setRow w B cur (cur.toList.take (o0 + o + old.length) ++ vs ++ cur.toList.drop (o0 + o + old.length + vs.length)).toArray el (0, 0) hc (o0 + o + i)
      rw [List.getElem?_toArray, splice_get _ _ _ hsz] at hcell
      by_cases h1 : i < old.length
      · rw [List.getElem?_append_left h1] at ha'
        rw [if_pos (by omega)] at hcell
        have hold' : k.cells[o + i]? = some a := by
          unfold seg at hold
          split at hold
          · have hold2 : (k.cells.drop o).take old.length = old := by simpa using hold
            rw [← hold2, List.getElem?_take, if_pos h1, List.getElem?_drop] at ha'
            exact ha'
          · cases hold
        obtain ⟨f, v, hv1, hv2⟩ := (h.row b B o0 x k hb hk).2 (o + i) a hold'
        refine ⟨f, v, ?_, hv2.mono hs⟩
        rw [hcell, ← hv1]; simp [World.cell?, hc, Nat.add_assoc]
      · rw [List.getElem?_append_right (by omega)] at ha'
        have hi2 : i - old.length < cs.length := (List.getElem?_eq_some_iff.1 ha').1
        rw [if_neg (by omega), if_pos (by omega)] at hcell
        obtain ⟨v, hv1, hv2⟩ := hv.get ha'
        refine ⟨List.all_eq_true.1 hf a (List.mem_of_getElem? ha'), v, ?_, hv2.mono hs⟩
        rw [hcell, ← hv1]; congr 1; omega
    · rw [Rho.add_ne _ _ e] at hb'
      obtain ⟨hne, hk2⟩ := hbk b' k' e hk'
      have hB := hother b' B' o' x' k' hne hb' hk2
      exact ⟨(h.row b' B' o' x' k' hb' hk2).1, (h.row b' B' o' x' k' hb' hk2).2.mono hs (setRow_other w B B' _ hB)⟩
  · intro b' B' o' x' k' hb' hk' hw'
    by_cases e : b' = H.n
    · subst e
      rw [Rho.add_same] at hb'; cases hb'
      refine ⟨_, _, setRow_heap w B cur _ el (0, 0) hc, ?_⟩
      have e3 : (cur.toList.take (o0 + o + old.length) ++ vs ++ cur.toList.drop (o0 + o + old.length + vs.length)).length = cur.size := by simp only [List.length_append, List.length_take, List.length_drop, Array.length_toList] at hsz ⊢; omega
      rw [List.size_toArray, e3]; omega
    · rw [Rho.add_ne _ _ e] at hb'
      obtain ⟨hne, hk2⟩ := hbk b' k' e hk'
      rw [setRow_other w B B' _ (hother b' B' o' x' k' hne hb' hk2)]
      exact h.own b' B' o' x' k' hb' hk2 hw'
  · intro b1 b2 B' o1 x1 o2 x2 k1 k2 hne h1 h2 hk1 hk2
    by_cases e1 : b1 = H.n
    · subst e1
      rw [Rho.add_same] at h1; cases h1
      rw [Rho.add_ne _ _ (Ne.symm hne)] at h2
      obtain ⟨hne2, hk2'⟩ := hbk b2 k2 (Ne.symm hne) hk2
      exact absurd rfl (hother b2 B o2 x2 k2 hne2 h2 hk2')
    · rw [Rho.add_ne _ _ e1] at h1
      obtain ⟨hne1, hk1'⟩ := hbk b1 k1 e1 hk1
      by_cases e2 : b2 = H.n
      · subst e2
        rw [Rho.add_same] at h2; cases h2
        exact absurd rfl (hother b1 B o1 x1 k1 hne1 h1 hk1')
      · rw [Rho.add_ne _ _ e2] at h2
        exact h.dis b1 b2 B' o1 x1 o2 x2 k1 k2 hne h1 h2 hk1' (hbk b2 k2 e2 hk2).2

end Go.Proofs.YtcibjklpaljadaaGreat.AM
namespace Go.Proofs.YtcibjklpaljadaaGreat.AM
set_option linter.unusedSimpArgs false
set_option linter.unusedVariables false
open Go Go.RowKit

def okV1 : Value → AV → Bool
  | .bool a, .b c => a == c
  | .int k n, .i k' m => k == k' && n == m
  | .string s, .str s' => s.data.toList == s'.data.toList
  | .pointer none, .nilp => true
  | .slice none 0 0, .nils => true
  | .nilFunc, .nilf => true
  | _, _ => false
def okVs : List Value → List AV → Bool
  | [], [] => true
  | v :: vs, a :: as => okV1 v a && okVs vs as
  | _, _ => false
def okV : Value → AV → Bool
  | .agg cs, .agg l => okVs cs.toList l
  | v, a => okV1 v a

theorem okV1_VR {ρ : Rho} {v a} (h : okV1 v a = true) : VR ρ a v ∧ a.flat = true := by
  unfold okV1 at h
  split at h
  · simp at h; subst h; exact ⟨.b _, rfl⟩
  · simp at h; obtain ⟨rfl, rfl⟩ := h; exact ⟨.i _ _, rfl⟩
  · rename_i s s'
    have : s = s' := by
      obtain ⟨d⟩ := s; obtain ⟨d'⟩ := s'
      have : d.toList = d'.toList := by simpa using h
      rw [Array.toList_inj] at this; rw [this]
    subst this; exact ⟨.str _, rfl⟩
  · exact ⟨.nilp, rfl⟩
  · exact ⟨.nils, rfl⟩
  · exact ⟨.nilf, rfl⟩
  · cases h
theorem okVs_VRs {ρ : Rho} : ∀ {vs as}, okVs vs as = true → VRs ρ as vs ∧ as.all AV.flat = true
  | [], [], _ => ⟨VRs.nil ρ, rfl⟩
  | v :: vs, a :: as, h => by
    simp only [okVs, Bool.and_eq_true] at h
    have h1 := okV1_VR (ρ := ρ) h.1
    have h2 := okVs_VRs (ρ := ρ) h.2
    exact ⟨VRs.cons h1.1 h2.1, by simp [h1.2, h2.2]⟩
  | [], _ :: _, h => by simp [okVs] at h
  | _ :: _, [], h => by simp [okVs] at h
theorem okV_VR {ρ : Rho} {v a} (h : okV v a = true) : VR ρ a v := by
  unfold okV at h
  split at h
  · have := okVs_VRs (ρ := ρ) h
    exact .agg this.2 (by simpa using this.1.1) this.1.2
  · exact (okV1_VR h).1

def fitX (NG : Nat) : Operand → AX → Bool
  | .tmp t, .t t' => t == t'
  | .const v, .c a => okV v a
  | .global g, .g g' => g == g' && decide (g < NG)
  | .func f, .c (.fn f' [] []) => f == f'
  | _, _ => false

def RelE (ρ : Rho) (e : Env) (tm : Array Value) : Prop := ∀ t v, get e t = some v → ∃ u, tm[t]? = some u ∧ VR ρ v u

theorem RelE.mono {ρ ρ' : Rho} (h : Sub ρ ρ') {e tm} (k : RelE ρ e tm) : RelE ρ' e tm := fun t v hv => let ⟨u, a, b⟩ := k t v hv; ⟨u, a, b.mono h⟩
theorem RelE.upd {ρ : Rho} {e tm} (k : RelE ρ e tm) {d : Option Nat} {v u} (hd : ∀ t, d = some t → t < tm.size) (h : VR ρ v u) (ds : List Deferred) :
    RelE ρ (upd e d v) (Act.put ⟨tm, ds⟩ d u).tmps := by
  cases d with
  | none => exact k
  | some t =>
    intro s x hx
    simp only [AM.upd, get] at hx
    simp only [Act.put]
    by_cases e1 : s = t
    · subst e1
      rw [if_pos rfl] at hx; cases hx
      exact ⟨u, by rw [Array.getElem?_setIfInBounds_self, if_pos (hd _ rfl)], h⟩
    · rw [if_neg e1] at hx
      obtain ⟨u', h1, h2⟩ := k s x hx
      exact ⟨u', by rw [Array.getElem?_setIfInBounds_ne (Ne.symm e1)]; exact h1, h2⟩
theorem keepE_get : ∀ (ks : List Nat) (e : Env) (t : Nat) (v : AV), get (keepE ks e) t = some v → get e t = some v
  | [], _, _, _, h => by simp [keepE, get] at h
  | k :: ks, e, t, v, h => by
    simp only [keepE] at h
    split at h
    · rename_i u hu
      simp only [get] at h
      split at h
      · rename_i e1; subst e1; rw [hu]; exact h
      · exact keepE_get ks e t v h
    · exact keepE_get ks e t v h
theorem RelE.keep {ρ : Rho} {e tm} (k : RelE ρ e tm) (ks : List Nat) : RelE ρ (keepE ks e) tm := fun t v h => k t v (keepE_get ks e t v h)

theorem ev_VR {NG : Nat} {ρ : Rho} {e : Env} {a : Act} (hg : ∀ g, g < NG → ∃ x, ρ g = some (g, 0, x)) (he : RelE ρ e a.tmps) {x y v} (hx : fitX NG x y = true) (hv : ev e y = some v) : VR ρ v (a.eval x) := by
  unfold fitX at hx
  split at hx
  · simp at hx; subst hx
    obtain ⟨u, h1, h2⟩ := he _ _ hv
    simp only [Act.eval, Array.getD_eq_getD_getElem?, h1, Option.getD_some]; exact h2
  · simp only [ev, Option.some.injEq] at hv; subst hv; exact okV_VR hx
  · simp at hx; obtain ⟨rfl, h⟩ := hx
    simp only [ev, Option.some.injEq] at hv; subst hv
    obtain ⟨x, hx⟩ := hg _ h
    exact VR.ptr (o := 0) hx
  · simp at hx; subst hx
    simp only [ev, Option.some.injEq] at hv; subst hv
    exact .fn rfl (fun i x v h => by simp at h) rfl (fun i x v h => by simp at h)
  · cases hx

def fitXs (NG : Nat) : List Operand → List AX → Bool
  | [], [] => true
  | x :: xs, y :: ys => fitX NG x y && fitXs NG xs ys
  | _, _ => false
theorem evs_VRs {NG : Nat} {ρ : Rho} {e : Env} {a : Act} (hg : ∀ g, g < NG → ∃ x, ρ g = some (g, 0, x)) (he : RelE ρ e a.tmps) : ∀ {xs ys vs}, fitXs NG xs ys = true → evs e ys = some vs → VRs ρ vs (xs.map a.eval)
  | [], [], _, _, h => by simp [evs] at h; subst h; exact VRs.nil ρ
  | x :: xs, y :: ys, vs, hf, h => by
    simp only [fitXs, Bool.and_eq_true] at hf
    simp only [evs] at h
    split at h
    · rename_i v hv
      cases h2 : evs e ys with
      | none => simp [h2] at h
      | some us =>
        simp [h2] at h; subst h
        exact VRs.cons (ev_VR hg he hf.1 hv) (evs_VRs hg he hf.2 h2)
    · cases h
  | [], _ :: _, _, hf, _ => by simp [fitXs] at hf
  | _ :: _, [], _, hf, _ => by simp [fitXs] at hf

def fitO (NG : Nat) : Option Operand → Option AX → Bool
  | none, none => true
  | some x, some y => fitX NG x y
  | _, _ => false

def tsize (P : Program) (t : TypeId) : Option Nat := (P.info? t).map (·.size)
def tagg (P : Program) (t : TypeId) : Option Bool := (P.underlying t).map TypeDesc.isRow
def tzero (P : Program) (t : TypeId) (z : List AV) : Bool :=
  match P.info? t with
  | some i => match i.zero with
    | some v => okVs v.cells.toList z
    | none => false
  | none => false
def telem (P : Program) (t : TypeId) : Option TypeId :=
  match P.underlying t with
  | some (.slice e) => some e
  | _ => none
def tfield (P : Program) (t : TypeId) (f : Nat) : Option Field :=
  match P.underlying t with
  | some (.struct fs) => fs[f]?
  | _ => none
def kindNil (P : Program) (t : TypeId) : Nat → Bool
  | 0 => match P.underlying t with | some (.slice _) => true | _ => false
  | 1 => match P.underlying t with | some (.pointer _) => true | _ => false
  | 2 => match P.underlying t with | some (.func ..) => true | _ => false
  | _ => false
def intFields (P : Program) (k : Nat) : List Field → Bool
  | [] => true
  | f :: fs => f.name != "_" && f.offset == k && (match P.underlying f.type with | some (.int _) => true | _ => false) && intFields P (k + 1) fs
def intStruct (P : Program) (t : TypeId) (n : Nat) : Bool :=
  match P.underlying t with
  | some (.struct fs) => !P.stoodInHeld t && intFields P 0 fs.toList && fs.toList.length == n && !P.eqGuardType P.depth t
  | _ => false
def fitParts (P : Program) (NG : Nat) (fs : List Field) : List (Nat × Operand) → List (Nat × Nat × AX) → Bool
  | [], [] => true
  | (i, x) :: ps, (o, s, y) :: qs => (match fs[i]? with | some f => f.offset == o && tsize P f.type == some s | none => false) && fitX NG x y && fitParts P NG fs ps qs
  | _, _ => false
def fitElems (NG : Nat) (sz : Nat) : List (Nat × Operand) → List (Nat × Nat × AX) → Bool
  | [], [] => true
  | (i, x) :: ps, (o, s, y) :: qs => i * sz == o && sz == s && fitX NG x y && fitElems NG sz ps qs
  | _, _ => false
def tbytes (P : Program) (t : TypeId) : Bool :=
  match P.info? t with
  | some i => decide (i.bytes ≤ 8192)
  | none => false

def fitOp (P : Program) (NG : Nat) : Op → AOp → Bool
  | .move x, .mv y => fitX NG x y
  | .assign x, .mv y => fitX NG x y
  | .pick c a b, .pick c' a' b' => fitX NG c c' && fitX NG a a' && fitX NG b b'
  | .alloc t, .alloc z => tzero P t z
  | .box _ x, .box y => fitX NG x y
  | .load t x, .load y => fitX NG x y && tagg P t == some false
  | .load t x, .loadN n y => fitX NG x y && tagg P t == some true && tsize P t == some n
  | .store t a v, .store n b u => fitX NG a b && fitX NG v u && tsize P t == some n
  | .nilCheck x, .nilc y => fitX NG x y
  | .binOp op _ x y _, .bin op' x' y' => decide (op = op') && fitX NG x x' && fitX NG y y'
  | .binOp op t x y _, .eqB ne x' y' => decide (op = if ne then .neq else .eql) && fitX NG x x' && fitX NG y y' && (match P.underlying t with | some .bool => true | _ => false)
  | .binOp op t x y _, .eqN kd ne x' y' => decide (op = if ne then .neq else .eql) && fitX NG x x' && fitX NG y y' && kindNil P t kd
  | .binOp op t x y _, .eqA n ne x' y' => decide (op = if ne then .neq else .eql) && fitX NG x x' && fitX NG y y' && intStruct P t n
  | .unOp op _ x, .un op' y => decide (op = op') && fitX NG x y
  | .convert s t x, .conv k y => fitX NG x y && (P.underlying s).isSome && (match P.underlying t with | some (.int k') => decide (k = k') | _ => false)
  | .makeSlice t l c, .mksl z l' c' => fitX NG l l' && fitX NG c c' && (match telem P t with | some e => tzero P e z && tsize P e == some z.length && tbytes P e && decide (z.length ≠ 0) | none => false)
  | .slice t x lo hi mx, .slice sz x' lo' hi' mx' => fitX NG x x' && fitO NG lo lo' && fitO NG hi hi' && fitO NG mx mx' && (match telem P t with | some e => tsize P e == some sz | none => false)
  | .fieldAddr t x f, .fldA off y => fitX NG x y && (match tfield P t f with | some d => d.offset == off && (match tsize P d.type with | some 0 => false | some _ => true | none => false) | none => false)
  | .field t x f, .fld off y => fitX NG x y && (match tfield P t f with | some d => d.offset == off && tagg P d.type == some false | none => false)
  | .field t x f, .fldN off n y => fitX NG x y && (match tfield P t f with | some d => d.offset == off && tagg P d.type == some true && tsize P d.type == some n | none => false)
  | .indexAddr t x i, .idxA sz x' i' => fitX NG x x' && fitX NG i i' && (match telem P t with | some e => tsize P e == some sz | none => false)
  | .indexAddr t x i, .idxAA sz len x' i' => fitX NG x x' && fitX NG i i' && (match P.underlying t with | some (.array n e) => n == len && tsize P e == some sz | _ => false)
  | .index t x i, .idx x' i' => fitX NG x x' && fitX NG i i' && (match P.underlying t with | some .string => true | _ => false)
  | .extract x i, .ext y j => fitX NG x y && i == j
  | .makeFunc fn first cap, .mkfn f a b => (match fn with | .func g => g == f | _ => false) && fitXs NG first.toList a && fitXs NG cap.toList b
  | .build t ps, .build z qs => tzero P t z && (match P.underlying t with | some (.struct fs) => fitParts P NG fs.toList ps.toList qs && fs.toList.all (fun f => (tsize P f.type).isSome) | _ => false)
  | .buildSlice t len ps, .bsl z len' qs => len == len' && (match telem P t with
      | some e => (match P.info? e with
        | some i => (match i.zero with
          | some v => decide (len * i.size ≤ 16777216) && fitElems NG i.size ps.toList qs && okVs ((List.range (len * i.size)).map fun j => v.cells[j % v.cells.size]!) z
          | none => false)
        | none => false)
      | none => false)
  | .call c, .len y => (match c.callee, c.args.toList, c.argTypes.toList with
      | .builtin .len, [x], t :: _ => fitX NG x y && (telem P t).isSome
      | _, _, _ => false)
  | .call c, .app sz s y => (match c.callee, c.args.toList, c.argTypes.toList with
      | .builtin .append, [a, b], [t, u] => fitX NG a s && fitX NG b y && (match telem P t, telem P u with
        | some e, some _ => tsize P e == some sz && tbytes P e && (match P.info? e with | some i => (match i.zero with | some z => z.cells.size == i.size | none => false) | none => false)
        | _, _ => false)
      | _, _, _ => false)
  | .call c, .appz sz z s n => (match c.callee, c.args.toList, c.argTypes.toList with
      | .builtin .append, [a, b], [t, u] => fitX NG a s && (match b with | .const (.int .i64 m) => m == (n : Int) | _ => false) && decide (1 ≤ n ∧ n ≤ 1000) && (match P.underlying u with | some (.int _) => true | _ => false) && (match telem P t with
        | some e => tsize P e == some sz && tbytes P e && tzero P e z && z.length == sz && decide (1 ≤ sz)
        | none => false)
      | _, _, _ => false)
  | .call c, .mx x y => (match c.callee, c.args.toList with | .builtin .max, [a, b] => fitX NG a x && fitX NG b y | _, _ => false)
  | .call c, .mn x y => (match c.callee, c.args.toList with | .builtin .min, [a, b] => fitX NG a x && fitX NG b y | _, _ => false)
  | .call c, .call f ys => (match c.callee with | .value (.func g) => g == f | _ => false) && fitXs NG c.args.toList ys
  | .call c, .callv y ys => (match c.callee with | .value x => fitX NG x y | _ => false) && fitXs NG c.args.toList ys
  | _, _ => false

def Came (P : Program) (o : Oper) (a : Act) (w : World) (cv : Value) (w' : World) : Prop :=
  (execOp a.eval o).run P w = .ok (.value cv) w' ∨ ((execOp a.eval o).run P w = .ok .skip w' ∧ cv = undef)

def Sim (P : Program) (NG : Nat) (o : Oper) (op : AOp) : Prop :=
  ∀ (ρ : Rho) (e : Env) (H : AH) (a : Act) (w : World) v H', RelE ρ e a.tmps → RelH NG ρ H w → Fresh ρ H.n H'.n → aop e H op = some (v, H') →
    ∃ ρ' cv w', Came P o a w cv w' ∧ Sub ρ ρ' ∧ NewB ρ H w ρ' H'.n ∧ RelH NG ρ' H' w' ∧ VR ρ' v cv ∧ Fr ρ H w w'

theorem Sim.pure_ {P NG o op} (h : ∀ (ρ : Rho) (e : Env) (a : Act) (w : World) (H : AH) v H', (∀ g, g < NG → ∃ x, ρ g = some (g, 0, x)) → RelE ρ e a.tmps → RelH NG ρ H w → aop e H op = some (v, H') →
    H' = H ∧ ∃ cv, (execOp a.eval o).run P w = .ok (.value cv) w ∧ VR ρ v cv) : Sim P NG o op := by
  intro ρ e H a w v H' he hH _ ho
  obtain ⟨rfl, cv, hr, hv⟩ := h ρ e a w H v H' hH.glob he hH ho
  exact ⟨ρ, cv, w, .inl hr, Sub.refl ρ, NewB.refl _ _ _ _, hH, hv, Fr.refl ρ H' w⟩

section
variable {P : Program} {NG : Nat} {o : Oper}

theorem run_value {P : Program} {w w' : World} {x : Sem Value} {v : Value} (h : x.run P w = .ok v w') : (do pure (Next.value (← x)) : Sem Next).run P w = .ok (.value v) w' := by simp [h]
theorem map_some {α β : Type} {o : Option α} {f : α → β} {b : β} (h : o.map f = some b) : ∃ a, o = some a ∧ f a = b := by
  cases o with
  | none => cases h
  | some a => exact ⟨a, rfl, by simpa using h⟩

theorem sim_mv {x y} (ho : o.op = .move x ∨ o.op = .assign x) (hf : fitX NG x y = true) : Sim P NG o (.mv y) := by
  apply Sim.pure_
  intro ρ e a w H v H' hg he _ h
  obtain ⟨u, hu, e2⟩ := map_some (show (ev e y).map (·, H) = some (v, H') from h)
  cases e2
  exact ⟨rfl, a.eval x, by rcases ho with ho | ho <;> (unfold execOp; rw [ho]; rfl), ev_VR hg he hf hu⟩

theorem sim_pick {c x z c' x' z'} (ho : o.op = .pick c x z) (h1 : fitX NG c c' = true) (h2 : fitX NG x x' = true) (h3 : fitX NG z z' = true) : Sim P NG o (.pick c' x' z') := by
  apply Sim.pure_
  intro ρ e a w H v H' hg he _ h
  simp only [aop] at h
  split at h
  · rename_i hc
    have hc' := ev_VR hg he h1 hc
    obtain ⟨u, hu, e2⟩ := map_some h; cases e2
    cases hcv : a.eval c <;> rw [hcv] at hc' <;> cases hc'
    exact ⟨rfl, a.eval x, by unfold execOp; rw [ho]; simp [hcv, asBool], ev_VR hg he h2 hu⟩
  · rename_i hc
    have hc' := ev_VR hg he h1 hc
    obtain ⟨u, hu, e2⟩ := map_some h; cases e2
    cases hcv : a.eval c <;> rw [hcv] at hc' <;> cases hc'
    exact ⟨rfl, a.eval z, by unfold execOp; rw [ho]; simp [hcv, asBool], ev_VR hg he h3 hu⟩
  · cases h

theorem VR.ptr_inv {ρ : Rho} {b o v} (h : VR ρ (.ptr b o) v) : ∃ B o0 x, ρ b = some (B, o0, x) ∧ v = .pointer (some ⟨B, o0 + o, none⟩) := by cases h with | ptr hb => exact ⟨_, _, _, hb, rfl⟩
theorem VR.i_inv {ρ : Rho} {k n v} (h : VR ρ (.i k n) v) : v = .int k n := by cases h; rfl
theorem VR.b_inv {ρ : Rho} {x v} (h : VR ρ (.b x) v) : v = .bool x := by cases h; rfl
theorem VR.agg_inv {ρ : Rho} {cs v} (h : VR ρ (.agg cs) v) : ∃ cs' : Array Value, v = .agg cs' ∧ VRs ρ cs cs'.toList := by cases h with | agg _ h1 h2 => exact ⟨_, rfl, by simpa using h1, h2⟩
theorem VR.agg_flat {ρ : Rho} {cs v} (h : VR ρ (.agg cs) v) : cs.all AV.flat = true := by cases h; assumption

theorem sim_alloc {t z} (ho : o.op = .alloc t) (hz : tzero P t z = true) : Sim P NG o (.alloc z) := by
  intro ρ e H a w v H' he hH hfr h
  simp only [aop, Option.some.injEq, Prod.mk.injEq] at h
  obtain ⟨rfl, rfl⟩ := h
  unfold tzero at hz
  split at hz
  · rename_i i hi
    split at hz
    · rename_i u hu
      have hv := okVs_VRs (ρ := ρ) hz
      have hn : ρ H.n = none := hfr _ (Nat.le_refl _) (Nat.lt_succ_self _)
      have hp := hH.push hn hv.1 hv.2 [] t
      refine ⟨_, .pointer (some ⟨w.heap.size, 0, none⟩), _, .inl ?_, add_sub hn _, NewB.add _ _ _ (.inl (Nat.le_refl _)), hp, ?_, Fr.alloc _ _ _ _⟩
      · unfold execOp; rw [ho]
        simp [Instr.alloc, zeroValue, typeInfo, hi, hu, newVar, newRow]
      · exact VR.ptr (o := 0) (Rho.add_same _ _ _)
    · cases hz
  · cases hz

theorem sim_box {t x y} (ho : o.op = .box t x) (hf : fitX NG x y = true) : Sim P NG o (.box y) := by
  intro ρ e H a w v H' he hH hfr h
  simp only [aop] at h
  split at h
  · rename_i u hu
    split at h
    · cases h
    · rename_i htup
      simp only [Option.some.injEq, Prod.mk.injEq] at h
      obtain ⟨rfl, rfl⟩ := h
      have hv0 := ev_VR hH.glob he hf hu
      have hn : ρ H.n = none := hfr _ (Nat.le_refl _) (Nat.lt_succ_self _)
      have hp := hH.push hn hv0.cells (hv0.flat (by simpa using htup)) [] t
      refine ⟨_, .pointer (some ⟨w.heap.size, 0, none⟩), _, .inl ?_, add_sub hn _, NewB.add _ _ _ (.inl (Nat.le_refl _)), hp, VR.ptr (o := 0) (Rho.add_same _ _ _), Fr.alloc _ _ _ _⟩
      · unfold execOp; rw [ho]
        simp [Instr.box, newVar, newRow]
  · cases h

theorem sim_load_run {t : TypeId} {ρ : Rho} {H : AH} {w : World} (hH : RelH NG ρ H w) {b off B o0 x0 : Nat} (hρ : ρ b = some (B, o0, x0)) {v : AV} (hu : H.load b off = some v) (ht : tagg P t = some false) :
    ∃ cv, (loadVar t ⟨B, o0 + off, none⟩).run P w = .ok cv w ∧ VR ρ v cv := by
  simp only [AH.load] at hu
  cases hk : H.bk b with
  | none => simp [hk] at hu
  | some k =>
    simp only [hk, Option.bind_some] at hu
    obtain ⟨_, cv, hc, hr⟩ := (hH.row b B o0 x0 k hρ hk).2 off v hu
    refine ⟨cv, ?_, hr⟩
    have hagg : (isAgg t).run P w = .ok false w := by
      unfold tagg at ht
      obtain ⟨d, hd, e3⟩ := map_some ht
      unfold isAgg; rw [Sem.run_bind, run_underlying hd w]
      cases d <;> simp_all
    simp [loadVar, hagg, load, Sem.run, hc]

theorem sim_loadN_run {t : TypeId} {ρ : Rho} {H : AH} {w : World} (hH : RelH NG ρ H w) {b off n B o0 x0 : Nat} (hρ : ρ b = some (B, o0, x0)) {u : List AV} (hu : H.loadN b off n = some u) (ht : tagg P t = some true) (hn : tsize P t = some n) :
    ∃ cv, (loadVar t ⟨B, o0 + off, none⟩).run P w = .ok cv w ∧ VR ρ (.agg u) cv := by
  simp only [AH.loadN] at hu
  cases hk : H.bk b with
  | none => simp [hk] at hu
  | some k =>
    simp only [hk, Option.bind_some, seg] at hu
    split at hu
    · rename_i hfit
      have hu' : (k.cells.drop off).take n = u := by simpa using hu
      have hlen : u.length = n := by rw [← hu']; simp; omega
      have hrow := (hH.row b B o0 x0 k hρ hk).2
      have hcell : ∀ i, i < n → ∃ cv, w.cell? ⟨B, o0 + off + i, none⟩ = some cv ∧ ∃ y, u[i]? = some y ∧ VR ρ y cv := by
        intro i hi
        have hki : off + i < k.cells.length := by omega
        obtain ⟨_, cv, hc, hr⟩ := hrow (off + i) _ (List.getElem?_eq_getElem hki)
        refine ⟨cv, by rw [Nat.add_assoc]; exact hc, _, ?_, hr⟩
        rw [← hu', List.getElem?_take, if_pos hi, List.getElem?_drop, List.getElem?_eq_getElem hki]
      let cs : List Value := (List.range n).map fun i => (w.cell? ⟨B, o0 + off + i, none⟩).getD undef
      have hcs : cs.length = n := by simp [cs]
      have hrange : w.rangeAt B (o0 + off) cs := by
        intro j v hv
        have hj : j < n := by have := (List.getElem?_eq_some_iff.1 hv).1; omega
        obtain ⟨cv, hc, _⟩ := hcell j hj
        simp [cs, hj, hc] at hv
        rw [hc, hv]
      have hvr : VRs ρ u cs := by
        refine ⟨by omega, fun i y v hy hv => ?_⟩
        have hj : i < n := by have := (List.getElem?_eq_some_iff.1 hv).1; omega
        obtain ⟨cv, hc, y', hy', hr⟩ := hcell i hj
        rw [hy] at hy'; cases hy'
        simp [cs, hj, hc] at hv
        rw [← hv]; exact hr
      have hfl : u.all AV.flat = true := by
        refine List.all_eq_true.2 fun y hy => ?_
        obtain ⟨i, hi, rfl⟩ := List.mem_iff_getElem.1 hy
        have h1 : u[i]? = some u[i] := List.getElem?_eq_getElem hi
        have h2 : k.cells[off + i]? = some u[i] := by rw [← h1, ← hu', List.getElem?_take, if_pos (by omega), List.getElem?_drop]
        exact (hrow (off + i) _ h2).1
      refine ⟨.agg cs.toArray, ?_, .agg hfl (by rw [List.size_toArray]; exact hvr.1) hvr.2⟩
      unfold tagg at ht
      obtain ⟨d, hd, e3⟩ := map_some ht
      exact run_loadVar_mid (P := P) w B (o0 + off) t cs d hrange hd e3 (by unfold tsize at hn; rw [hn, hcs])
    · cases hu

theorem sim_load {t x y} (ho : o.op = .load t x) (hf : fitX NG x y = true) (ht : tagg P t = some false) : Sim P NG o (.load y) := by
  apply Sim.pure_
  intro ρ e a w H v H' hg he hH h
  simp only [aop] at h
  split at h
  · rename_i b off hb
    obtain ⟨u, hu, e2⟩ := map_some h; cases e2
    obtain ⟨B, o0, x0, hρ, hp⟩ := (ev_VR hg he hf hb).ptr_inv
    obtain ⟨cv, hr, hv⟩ := sim_load_run (P := P) hH hρ hu ht
    refine ⟨rfl, cv, ?_, hv⟩
    unfold execOp; rw [ho]
    simp [hp, Instr.loadAt, Instr.sureAddr, hr]
  · cases h

theorem sim_loadN {t x y n} (ho : o.op = .load t x) (hf : fitX NG x y = true) (ht : tagg P t = some true) (hn : tsize P t = some n) : Sim P NG o (.loadN n y) := by
  apply Sim.pure_
  intro ρ e a w H v H' hg he hH h
  simp only [aop] at h
  split at h
  · rename_i b off hb
    obtain ⟨u, hu, e2⟩ := map_some h; cases e2
    obtain ⟨B, o0, x0, hρ, hp⟩ := (ev_VR hg he hf hb).ptr_inv
    obtain ⟨cv, hr, hv⟩ := sim_loadN_run (P := P) hH hρ hu ht hn
    refine ⟨rfl, cv, ?_, hv⟩
    unfold execOp; rw [ho]
    simp [hp, Instr.loadAt, Instr.sureAddr, hr]
  · cases h

theorem sim_store {t x z x' z' n} (ho : o.op = .store t x z) (h1 : fitX NG x x' = true) (h2 : fitX NG z z' = true) (hn : tsize P t = some n) : Sim P NG o (.store n x' z') := by
  intro ρ e H a w v H' he hH _ h
  simp only [aop] at h
  split at h
  · rename_i b off u hb hu
    split at h
    · rename_i hl
      obtain ⟨H1, hst, e2⟩ := map_some h; cases e2
      obtain ⟨B, o0, x0, hρ, hp⟩ := (ev_VR hH.glob he h1 hb).ptr_inv
      have hv := (ev_VR hH.glob he h2 hu).cells
      have hflat := (ev_VR hH.glob he h2 hu).flat hl.2
      replace hl := hl.1
      unfold AH.store at hst
      split at hst
      · rename_i k hk
        split at hst
        · rename_i hc
          obtain ⟨hw, hfit⟩ := hc
          have e3 : H' = H.put b (some ⟨splice k.cells off u.cells, true⟩) := by simpa using hst.symm
          subst e3
          obtain ⟨cur, el, hheap, hx⟩ := hH.own b B o0 x0 k hρ hk hw
          have hkx := (hH.row b B o0 x0 k hρ hk).1
          have hone := hv.oneCell hflat
          have hs := run_storeCells_at P B (o0 + off) el (a.eval z).cells.toList 0 cur w hheap (by have := hv.1; omega) hone
          simp only [Nat.add_zero] at hs
          refine ⟨ρ, undef, _, .inr ⟨?_, rfl⟩, Sub.refl ρ, NewB.refl _ _ _ _, hH.store hρ hk hw hheap hx hv hflat hfit, .tup rfl (fun i x v h => by simp at h), Fr.setRow hH hρ hk hw _⟩
          have hsz : ∃ i, P.info? t = some i ∧ i.size = n := by
            unfold tsize at hn
            exact map_some hn
          obtain ⟨i, hi, hi2⟩ := hsz
          have hcs : (a.eval z).cells.size = n := by rw [← Array.length_toList, ← hv.1]; exact hl
          unfold execOp; rw [ho]
          simp only [hp, Instr.storeAt, Instr.sureAddr, storeVar, sizeOf, typeInfo, Sem.run_bind, Sem.run_pure, run_program, Result.andThen_ok, hi, hi2, hcs, ne_eq, not_true_eq_false, if_false, hs]
        · cases hst
      · cases hst
    · cases h
  · cases h

theorem sim_nilc {x y} (ho : o.op = .nilCheck x) (hf : fitX NG x y = true) : Sim P NG o (.nilc y) := by
  apply Sim.pure_
  intro ρ e a w H v H' hg he hH h
  simp only [aop] at h
  split at h
  · rename_i b off hb
    simp only [Option.some.injEq, Prod.mk.injEq] at h; obtain ⟨rfl, rfl⟩ := h
    have hv := ev_VR hg he hf hb
    obtain ⟨B, o0, x0, hρ, hp⟩ := hv.ptr_inv
    exact ⟨rfl, a.eval x, by unfold execOp; rw [ho]; simp [hp], hv⟩
  · rename_i f c d hb
    simp only [Option.some.injEq, Prod.mk.injEq] at h; obtain ⟨rfl, rfl⟩ := h
    have hv := ev_VR hg he hf hb
    refine ⟨rfl, a.eval x, ?_, hv⟩
    obtain ⟨a', c', hx⟩ : ∃ a' c', a.eval x = .func (.func f) a' c' := by
      generalize a.eval x = u at hv
      cases hv
      exact ⟨_, _, rfl⟩
    unfold execOp; rw [ho]
    simp [hx]
  · cases h

end
end Go.Proofs.YtcibjklpaljadaaGreat.AM
namespace Go.Proofs.YtcibjklpaljadaaGreat.AM
set_option linter.unusedSimpArgs false
set_option linter.unusedVariables false
open Go Go.RowKit

section
variable {P : Program} {NG : Nat} {o : Oper}

theorem run_eqGuard_int {P : Program} (op : BinOp) (t : TypeId) (x y : Operand) (k k' : IntKind) (n m : Int) (w : World) : (eqGuard op t x y (.int k n) (.int k' m)).run P w = .ok () w := by
  unfold eqGuard; split <;> simp

theorem run_bin {P : Program} {op : BinOp} {t : TypeId} {a b : AV} {v : AV} {u u' : Value} {ρ : Rho} (w : World) (ha : VR ρ a u) (hb : VR ρ b u') (h : abin op a b = some v) :
    ∃ cv, (binOp op t u u').run P w = .ok cv w ∧ VR ρ v cv ∧ (∃ k n, u = .int k n) ∧ (∃ k n, u' = .int k n) := by
  unfold abin at h
  split at h
  · rename_i k a k' c
    cases ha; cases hb
    split at h
    · rename_i hs
      unfold ishift at h
      split at h
      · cases h
      · rename_i hneg
        cases op <;> simp [isShift] at hs <;> simp only [Option.some.injEq] at h <;> subst h
        · exact ⟨_, by simp only [binOp, Op.shift, if_neg hneg]; rfl, .i _ _, ⟨_, _, rfl⟩, ⟨_, _, rfl⟩⟩
        · exact ⟨_, by simp only [binOp, Op.shift, if_neg hneg]; rfl, .i _ _, ⟨_, _, rfl⟩, ⟨_, _, rfl⟩⟩
    · rename_i hs
      split at h
      · rename_i hk
        subst hk
        unfold ibin at h
        cases op <;> simp [isShift] at hs
        case quo =>
          simp only at h
          split at h
          · cases h
          · rename_i h0
            simp only [Option.some.injEq] at h; subst h
            exact ⟨_, by simp only [binOp, Op.intDiv]; simp [h0], .i _ _, ⟨_, _, rfl⟩, ⟨_, _, rfl⟩⟩
        case rem =>
          simp only at h
          split at h
          · cases h
          · rename_i h0
            simp only [Option.some.injEq] at h; subst h
            exact ⟨_, by simp only [binOp, Op.intDiv]; simp [h0], .i _ _, ⟨_, _, rfl⟩, ⟨_, _, rfl⟩⟩
        all_goals (simp only [ibits, Option.some.injEq] at h; subst h)
        case add => exact ⟨_, by simp [binOp, Op.intArith], .i _ _, ⟨_, _, rfl⟩, ⟨_, _, rfl⟩⟩
        case sub => exact ⟨_, by simp [binOp, Op.intArith], .i _ _, ⟨_, _, rfl⟩, ⟨_, _, rfl⟩⟩
        case mul => exact ⟨_, by simp [binOp, Op.intArith], .i _ _, ⟨_, _, rfl⟩, ⟨_, _, rfl⟩⟩
        case and => exact ⟨_, by simp [binOp, Op.intBits], .i _ _, ⟨_, _, rfl⟩, ⟨_, _, rfl⟩⟩
        case or => exact ⟨_, by simp [binOp, Op.intBits], .i _ _, ⟨_, _, rfl⟩, ⟨_, _, rfl⟩⟩
        case xor => exact ⟨_, by simp [binOp, Op.intBits], .i _ _, ⟨_, _, rfl⟩, ⟨_, _, rfl⟩⟩
        case andNot => exact ⟨_, by simp [binOp, Op.intBits], .i _ _, ⟨_, _, rfl⟩, ⟨_, _, rfl⟩⟩
        all_goals exact ⟨_, by simp [binOp, Op.intCmp], .b _, ⟨_, _, rfl⟩, ⟨_, _, rfl⟩⟩
      · cases h
  · cases h

theorem sim_bin {op t x y yt x' y'} (ho : o.op = .binOp op t x y yt) (h1 : fitX NG x x' = true) (h2 : fitX NG y y' = true) : Sim P NG o (.bin op x' y') := by
  apply Sim.pure_
  intro ρ e a w H v H' hg he hH h
  simp only [aop] at h
  split at h
  · rename_i u u' hu hu'
    obtain ⟨r, hr, e2⟩ := map_some h; cases e2
    obtain ⟨cv, hrun, hv, ⟨k, n, hx⟩, ⟨k', n', hy⟩⟩ := run_bin (P := P) (t := t) w (ev_VR hg he h1 hu) (ev_VR hg he h2 hu') hr
    refine ⟨rfl, cv, ?_, hv⟩
    unfold execOp; rw [ho]
    rw [hx, hy] at hrun
    simp only [hx, hy]
    apply run_value
    rw [Sem.run_bind, run_eqGuard_int]
    exact hrun
  · cases h

theorem run_eqGuard_plain {P : Program} (op : BinOp) (t : TypeId) (x y : Operand) (u v : Value) (w : World) (h : ∀ a, u ≠ .agg a) (h' : u ≠ .nilIface) : (eqGuard op t x y u v).run P w = .ok () w := by
  unfold eqGuard
  cases op <;> simp only [Bool.not_true, Bool.not_false, Bool.false_eq_true, if_true, if_false] <;> first
    | rfl
    | (cases u <;> first | rfl | exact absurd rfl h' | exact absurd rfl (h _))

theorem run_equal_bool {P : Program} (t : TypeId) (u u' : Bool) (w : World) (ht : P.underlying t = some .bool) : (Op.equal t (.bool u) (.bool u')).run P w = .ok (u == u') w := by
  have : ∀ d, (Op.equalIn (d + 1) t (.bool u) (.bool u')).run P w = .ok (u == u') w := fun d => by
    simp only [Op.equalIn, Sem.run_bind, run_underlying ht, Result.andThen_ok]; rfl
  exact this 9999

theorem sim_eqB {op t x y yt x' y' ne} (ho : o.op = .binOp op t x y yt) (hop : op = if ne then .neq else .eql) (h1 : fitX NG x x' = true) (h2 : fitX NG y y' = true) (ht : P.underlying t = some .bool) : Sim P NG o (.eqB ne x' y') := by
  apply Sim.pure_
  intro ρ e a w H v H' hg he hH h
  simp only [aop] at h
  split at h
  · rename_i u u' hu hu'
    simp only [Option.some.injEq, Prod.mk.injEq] at h; obtain ⟨rfl, rfl⟩ := h
    have e1 := (ev_VR hg he h1 hu).b_inv
    have e2 := (ev_VR hg he h2 hu').b_inv
    refine ⟨rfl, .bool (if ne then u != u' else u == u'), ?_, .b _⟩
    unfold execOp; rw [ho]
    apply run_value
    simp only [e1, e2]
    rw [Sem.run_bind, run_eqGuard_plain _ _ _ _ _ _ _ (by simp) (by simp)]
    subst hop
    have hq : (Op.equal t (.bool u) (.bool u')).run P w = .ok (u == u') w := run_equal_bool t u u' w ht
    cases ne
    · simp only [Bool.false_eq_true, if_false, binOp, Sem.run_bind, hq, Result.andThen_ok]; rfl
    · simp only [if_true, binOp, Sem.run_bind, hq, Result.andThen_ok]; cases u <;> cases u' <;> rfl
  · cases h

def nilish : Value → Bool
  | .pointer _ | .slice .. | .func .. | .nilFunc => true
  | _ => false
theorem nil_equal {P : Program} {t : TypeId} {kd : Nat} (ht : kindNil P t kd = true) {ρ : Rho} {u u' X Y p q} (k1 : VR ρ u X) (k2 : VR ρ u' Y) (hp : isNil kd u = some p) (hq : isNil kd u' = some q) (hpq : p = true ∨ q = true) (w : World) :
    (Op.equal t X Y).run P w = .ok (p && q) w ∧ nilish X = true := by
  have key : ∀ d, (Op.equalIn (d + 1) t X Y).run P w = .ok (p && q) w ∧ nilish X = true := by
    intro d
    unfold kindNil at ht
    split at ht
    all_goals first | (cases ht; done) | skip
    all_goals
      split at ht
      case h_2 => cases ht
      case h_1 =>
        rename_i hE
        cases k1 <;> simp only [isNil] at hp <;> cases hp <;> cases k2 <;> simp only [isNil] at hq <;> cases hq <;>
          first
          | (rcases hpq with hpq | hpq <;> cases hpq; done)
          | (simp only [Op.equalIn, Sem.run_bind, run_underlying hE, Result.andThen_ok, nilish]; exact ⟨rfl, trivial⟩)
  exact key 9999

theorem run_binOp_nilish {P : Program} {t : TypeId} {X Y : Value} {r : Bool} (w : World) (ne : Bool) (hn : nilish X = true) (h : (Op.equal t X Y).run P w = .ok r w) :
    (binOp (if ne then .neq else .eql) t X Y).run P w = .ok (.bool (if ne then !r else r)) w := by
  cases ne
  · simp only [Bool.false_eq_true, if_false]
    cases X <;> simp only [nilish, Bool.false_eq_true] at hn <;> simp only [binOp, Sem.run_bind, h, Result.andThen_ok] <;> rfl
  · simp only [if_true]
    cases X <;> simp only [nilish, Bool.false_eq_true] at hn <;> simp only [binOp, Sem.run_bind, h, Result.andThen_ok] <;> rfl

theorem sim_eqN {op t x y yt x' y' kd ne} (ho : o.op = .binOp op t x y yt) (hop : op = if ne then .neq else .eql) (h1 : fitX NG x x' = true) (h2 : fitX NG y y' = true) (ht : kindNil P t kd = true) : Sim P NG o (.eqN kd ne x' y') := by
  apply Sim.pure_
  intro ρ e a w H v H' hg he hH h
  simp only [aop] at h
  split at h
  · rename_i u u' hu hu'
    have k1 := ev_VR hg he h1 hu
    have k2 := ev_VR hg he h2 hu'
    have go : ∀ p q, isNil kd u = some p → isNil kd u' = some q → (p = true ∨ q = true) → (execOp a.eval o).run P w = .ok (.value (.bool (if ne then !(p && q) else (p && q)))) w := by
      intro p q hp hq hpq
      obtain ⟨hr, hn⟩ := nil_equal ht k1 k2 hp hq hpq w
      unfold execOp; rw [ho]
      apply run_value
      have g1 : ∀ c, a.eval x ≠ .agg c := fun c e => by rw [e] at hn; cases hn
      have g2 : a.eval x ≠ .nilIface := fun e => by rw [e] at hn; cases hn
      rw [Sem.run_bind, run_eqGuard_plain _ _ _ _ _ _ _ g1 g2, hop]
      exact run_binOp_nilish w ne hn hr
    split at h
    · rename_i q hq hq'
      simp only [Option.some.injEq, Prod.mk.injEq] at h; obtain ⟨rfl, rfl⟩ := h
      exact ⟨rfl, _, go _ _ hq hq' (.inl rfl), by simp only [Bool.true_and]; exact .b _⟩
    · rename_i p hp hp' 
      simp only [Option.some.injEq, Prod.mk.injEq] at h; obtain ⟨rfl, rfl⟩ := h
      exact ⟨rfl, _, go _ _ hp hp' (.inr rfl), by simp only [Bool.and_true]; exact .b _⟩
    · cases h
  · cases h

theorem eqInts_run {P : Program} {ρ : Rho} (d : Nat) (w : World) (xs ys : Array Value) : ∀ (fs : List Field) (k : Nat) (l m : List AV) (r : Bool), intFields P k fs = true → fs.length = l.length →
    VRs ρ l (xs.toList.drop k) → VRs ρ m (ys.toList.drop k) → eqInts l m = some r → (Op.eqFields (d + 1) xs ys fs).run P w = .ok r w
  | [], k, [], m, r, _, _, _, _, h => by
    cases m with
    | nil => simp [eqInts] at h; subst h; rfl
    | cons => simp [eqInts] at h
  | f :: fs, k, x :: l, m, r, hf, hl, hx, hy, h => by
    simp only [intFields, Bool.and_eq_true, bne_iff_ne, beq_iff_eq] at hf
    obtain ⟨⟨⟨hn, ho⟩, ht⟩, hrest⟩ := hf
    split at ht
    · rename_i kk hkk
      cases m with
      | nil => cases x <;> simp [eqInts] at h
      | cons y m =>
        cases x <;> cases y <;> simp only [eqInts] at h <;> first | (cases h; done) | skip
        rename_i kx nx ky ny
        split at h
        · rename_i hke
          subst hke
          obtain ⟨r', hr', e2⟩ := map_some h
          obtain ⟨vx, mx, ex, hvx, hmx⟩ := hx.cons_inv
          obtain ⟨vy, my, ey, hvy, hmy⟩ := hy.cons_inv
          cases hvx; cases hvy
          have gx : xs[k]? = some (.int kx nx) := by rw [← Array.getElem?_toList]; have := congrArg (fun l : List Value => l[0]?) ex; simpa [List.getElem?_drop] using this
          have gy : ys[k]? = some (.int kx ny) := by rw [← Array.getElem?_toList]; have := congrArg (fun l : List Value => l[0]?) ey; simpa [List.getElem?_drop] using this
          have hx' : xs.toList.drop (k + 1) = mx := by have := congrArg List.tail ex; simpa [List.tail_drop] using this
          have hy' : ys.toList.drop (k + 1) = my := by have := congrArg List.tail ey; simpa [List.tail_drop] using this
          have hagg : (isAgg f.type).run P w = .ok false w := by unfold isAgg; rw [Sem.run_bind, run_underlying hkk w]; rfl
          have px : (part f.type xs f.offset).run P w = .ok (.int kx nx) w := by simp [part, hagg, ho, gx]
          have py : (part f.type ys f.offset).run P w = .ok (.int kx ny) w := by simp [part, hagg, ho, gy]
          have he : (Op.equalIn (d + 1) f.type (.int kx nx) (.int kx ny)).run P w = .ok (nx == ny) w := by simp [Op.equalIn, run_underlying hkk]
          have ih := eqInts_run d w xs ys fs (k + 1) l m r' hrest (by simpa using hl) (by rw [hx']; exact hmx) (by rw [hy']; exact hmy) hr'
          simp only [Op.eqFields, if_pos hn, Sem.run_bind, px, py, he, Result.andThen_ok]
          subst e2
          cases hb : (nx == ny) <;> simp [ih]
        · cases h
    · cases ht
  | f :: fs, k, [], m, r, hf, hl, _, _, _ => by simp at hl
  | [], k, _ :: _, m, r, hf, hl, _, _, _ => by simp at hl

theorem sim_eqA {op t x y yt x' y' n ne} (ho : o.op = .binOp op t x y yt) (hop : op = if ne = true then .neq else .eql) (h1 : fitX NG x x' = true) (h2 : fitX NG y y' = true) (ht : intStruct P t n = true) : Sim P NG o (.eqA n ne x' y') := by
  apply Sim.pure_
  intro ρ e a w H v H' hg he hH h
  unfold intStruct at ht
  split at ht
  · rename_i fs hfs
    simp only [Bool.and_eq_true, Bool.not_eq_true', beq_iff_eq] at ht
    obtain ⟨⟨⟨hst, hif⟩, hlen⟩, hgt⟩ := ht
    simp only [aop] at h
    split at h
    · rename_i l m hl hm
      split at h
      · rename_i hn
        obtain ⟨r, hr, e2⟩ := map_some h; cases e2
        obtain ⟨xs, ex, hx⟩ := (ev_VR hg he h1 hl).agg_inv
        obtain ⟨ys, ey, hy⟩ := (ev_VR hg he h2 hm).agg_inv
        have hf : P.fieldsOf t = fs := by simp [Program.fieldsOf, hfs]
        have heq : (Op.equal t (.agg xs) (.agg ys)).run P w = .ok r w := by
          have := run_equalIn_struct (P := P) w 9999 t xs ys (by rw [hf]; exact hfs) hst
          rw [hf, eqInts_run 9998 w xs ys fs.toList 0 l m r hif (by omega) (by simpa using hx) (by simpa using hy) hr] at this
          exact this
        refine ⟨rfl, .bool (if ne = true then !r else r), ?_, .b _⟩
        unfold execOp; rw [ho]
        apply run_value
        simp only [ex, ey]
        have hgd : (eqGuard op t x y (.agg xs) (.agg ys)).run P w = .ok () w := by
          unfold eqGuard
          subst hop
          cases ne <;> simp [hgt]
        rw [Sem.run_bind, hgd, hop]
        cases ne
        · simp only [Bool.false_eq_true, if_false, binOp, Sem.run_bind, heq, Result.andThen_ok]; rfl
        · simp only [if_true, binOp, Sem.run_bind, heq, Result.andThen_ok]; rfl
      · cases h
    · cases h
  · cases ht

theorem sim_un {op t x y} (ho : o.op = .unOp op t x) (hf : fitX NG x y = true) : Sim P NG o (.un op y) := by
  apply Sim.pure_
  intro ρ e a w H v H' hg he hH h
  simp only [aop] at h
  split at h
  · rename_i u hu
    obtain ⟨r, hr, e2⟩ := map_some h; cases e2
    have hv := ev_VR hg he hf hu
    unfold aun at hr
    split at hr
    · have hb := hv.b_inv
      cases op <;> simp only [Option.some.injEq] at hr <;> first | (cases hr; done) | skip
      subst hr
      exact ⟨rfl, _, by unfold execOp; rw [ho]; apply run_value; simp only [hb, Op.unary]; rfl, .b _⟩
    · have hb := hv.i_inv
      cases op <;> simp only [Option.some.injEq] at hr <;> first | (cases hr; done) | skip
      subst hr
      exact ⟨rfl, _, by unfold execOp; rw [ho]; apply run_value; simp only [hb, Op.unary, Op.intArith]; rfl, .i _ _⟩
    · cases hr
  · cases h

theorem sim_conv {s t x y k} (ho : o.op = .convert s t x) (hf : fitX NG x y = true) (hs : (P.underlying s).isSome = true) (ht : P.underlying t = some (.int k)) : Sim P NG o (.conv k y) := by
  apply Sim.pure_
  intro ρ e a w H v H' hg he hH h
  simp only [aop] at h
  split at h
  · rename_i k' n hu
    simp only [Option.some.injEq, Prod.mk.injEq] at h; obtain ⟨rfl, rfl⟩ := h
    have hb := (ev_VR hg he hf hu).i_inv
    obtain ⟨d, hd⟩ := Option.isSome_iff_exists.mp hs
    refine ⟨rfl, .int k (k.wrap n), ?_, .i _ _⟩
    unfold execOp; rw [ho]; apply run_value
    simp [hb, convert, run_underlying hd, run_underlying ht, Conv.intToInt]
  · cases h

theorem sim_fldA {t x y f off d} (ho : o.op = .fieldAddr t x f) (hf : fitX NG x y = true) (hd : tfield P t f = some d) (hoff : d.offset = off) (hsz : ∃ n, tsize P d.type = some (n + 1)) : Sim P NG o (.fldA off y) := by
  apply Sim.pure_
  intro ρ e a w H v H' hg he hH h
  simp only [aop] at h
  split at h
  · rename_i b o1 hb
    simp only [Option.some.injEq, Prod.mk.injEq] at h; obtain ⟨rfl, rfl⟩ := h
    obtain ⟨B, o0, x0, hρ, hp⟩ := (ev_VR hg he hf hb).ptr_inv
    refine ⟨rfl, .pointer (some ⟨B, o0 + (o1 + off), none⟩), ?_, .ptr hρ⟩
    unfold tfield at hd
    split at hd
    · rename_i fs hfs
      obtain ⟨n, hn⟩ := hsz
      obtain ⟨i, hi, hi2⟩ := map_some (show (P.info? d.type).map (·.size) = some (n + 1) from hn)
      unfold execOp; rw [ho]; apply run_value
      have e3 : (⟨B, o0 + o1, none⟩ : Addr).add d.offset = ⟨B, o0 + (o1 + off), none⟩ := by rw [hoff]; unfold Addr.add; split <;> simp_all [Nat.add_assoc]
      simp [hp, Instr.fieldAt, Instr.sureAddr, run_underlying hfs, hd, fieldPlace, sizeOf, typeInfo, hi, hi2, e3]
    · cases hd
  · cases h

theorem sim_fld {t x y f off d} (ho : o.op = .field t x f) (hf : fitX NG x y = true) (hd : tfield P t f = some d) (hoff : d.offset = off) (hagg : tagg P d.type = some false) : Sim P NG o (.fld off y) := by
  apply Sim.pure_
  intro ρ e a w H v H' hg he hH h
  simp only [aop] at h
  split at h
  · rename_i cs hb
    obtain ⟨r, hr, e2⟩ := map_some h; cases e2
    obtain ⟨cs', ex, hx⟩ := (ev_VR hg he hf hb).agg_inv
    obtain ⟨u, hu, hv⟩ := hx.get hr
    refine ⟨rfl, u, ?_, hv⟩
    unfold tfield at hd
    split at hd
    · rename_i fs hfs
      obtain ⟨dd, hdd, e3⟩ := map_some (show (P.underlying d.type).map TypeDesc.isRow = some false from hagg)
      have hagg : (isAgg d.type).run P w = .ok false w := by
        unfold isAgg; rw [Sem.run_bind, run_underlying hdd w]
        cases dd <;> simp_all
      have hu' : cs'[off]? = some u := by rw [← Array.getElem?_toList]; exact hu
      unfold execOp; rw [ho]; apply run_value
      simp [ex, Instr.field, run_underlying hfs, hd, asAgg, part, hagg, hoff, hu']
    · cases hd
  · cases h

theorem VRs.seg {ρ : Rho} {l l'} (h : VRs ρ l l') {off n : Nat} {u} (hu : seg l off n = some u) : VRs ρ u ((l'.drop off).take n) ∧ off + n ≤ l'.length := by
  unfold AM.seg at hu
  split at hu
  · rename_i hfit
    have hu' : (l.drop off).take n = u := by simpa using hu
    subst hu'
    exact ⟨(h.drop off).take n, by rw [← h.1]; exact hfit⟩
  · cases hu
theorem seg_flat {l : List AV} (h : l.all AV.flat = true) {off n : Nat} {u} (hu : seg l off n = some u) : u.all AV.flat = true := by
  unfold seg at hu
  split at hu
  · have hu' : (l.drop off).take n = u := by simpa using hu
    subst hu'
    exact List.all_eq_true.2 fun x hx => List.all_eq_true.1 h x (List.mem_of_mem_drop (List.mem_of_mem_take hx))
  · cases hu

theorem sim_fldN {t x y f off n d} (ho : o.op = .field t x f) (hf : fitX NG x y = true) (hd : tfield P t f = some d) (hoff : d.offset = off) (hagg : tagg P d.type = some true) (hn : tsize P d.type = some n) : Sim P NG o (.fldN off n y) := by
  apply Sim.pure_
  intro ρ e a w H v H' hg he hH h
  simp only [aop] at h
  split at h
  · rename_i cs hb
    obtain ⟨r, hr, e2⟩ := map_some h; cases e2
    have hv0 := ev_VR hg he hf hb
    obtain ⟨cs', ex, hx⟩ := hv0.agg_inv
    obtain ⟨hv, hfit⟩ := hx.seg hr
    have earr : (cs'.extract off (off + n)).toList = (cs'.toList.drop off).take n := by rw [Array.toList_extract, List.extract_eq_take_drop]; congr 1; omega
    refine ⟨rfl, .agg (cs'.extract off (off + n)), ?_, .agg (seg_flat hv0.agg_flat hr) ?_ ?_⟩
    · unfold tfield at hd
      split at hd
      · rename_i fs hfs
        obtain ⟨dd, hdd, e3⟩ := map_some (show (P.underlying d.type).map TypeDesc.isRow = some true from hagg)
        have hagg : (isAgg d.type).run P w = .ok true w := by
          unfold isAgg; rw [Sem.run_bind, run_underlying hdd w]
          cases dd <;> simp_all
        obtain ⟨i, hi, hi2⟩ := map_some (show (P.info? d.type).map (·.size) = some n from hn)
        unfold execOp; rw [ho]; apply run_value
        simp [ex, Instr.field, run_underlying hfs, hd, asAgg, part, hagg, hoff, sizeOf, typeInfo, hi, hi2]
      · cases hd
    · rw [← Array.length_toList, earr]; exact hv.1
    · rw [earr]; exact hv.2
  · cases h

theorem sim_idxA {t x i x' i' sz el} (ho : o.op = .indexAddr t x i) (h1 : fitX NG x x' = true) (h2 : fitX NG i i' = true) (ht : P.underlying t = some (.slice el)) (hsz : tsize P el = some sz) : Sim P NG o (.idxA sz x' i') := by
  apply Sim.pure_
  intro ρ e a w H v H' hg he hH h
  simp only [aop] at h
  split at h
  · rename_i b off len cap k n hb hn
    split at h
    · rename_i hr
      simp only [Option.some.injEq, Prod.mk.injEq] at h; obtain ⟨rfl, rfl⟩ := h
      have hv := ev_VR hg he h1 hb
      have hi := (ev_VR hg he h2 hn).i_inv
      obtain ⟨B, o0, x0, c, hρ, hp⟩ : ∃ B o0 x0 c, ρ b = some (B, o0, x0) ∧ a.eval x = .slice (some ⟨B, o0 + off, none⟩) len c := by
        generalize a.eval x = X at hv
        cases hv with
        | slE hq _ => exact ⟨_, _, _, _, hq, rfl⟩
        | slL hq _ _ _ => exact ⟨_, _, _, _, hq, rfl⟩
        | slR hq _ => exact ⟨_, _, _, _, hq, rfl⟩
      refine ⟨rfl, .pointer (some ⟨B, o0 + (off + n.toNat * sz), none⟩), ?_, .ptr hρ⟩
      obtain ⟨j, hj, hj2⟩ := map_some (show (P.info? el).map (·.size) = some sz from hsz)
      have e3 : (⟨B, o0 + off, none⟩ : Addr).add (n.toNat * sz) = ⟨B, o0 + (off + n.toNat * sz), none⟩ := by rw [Addr.add_mid, Nat.add_assoc]
      unfold execOp; rw [ho]; apply run_value
      simp [hp, hi, Instr.indexAt, asIntOf, run_underlying ht, hr.1, hr.2, sizeOf, typeInfo, hj, hj2, e3]
    · cases h
  · cases h

theorem sim_idxAA {t x i x' i' sz len el} (ho : o.op = .indexAddr t x i) (h1 : fitX NG x x' = true) (h2 : fitX NG i i' = true) (ht : P.underlying t = some (.array len el)) (hsz : tsize P el = some sz) : Sim P NG o (.idxAA sz len x' i') := by
  apply Sim.pure_
  intro ρ e a w H v H' hg he hH h
  simp only [aop] at h
  split at h
  · rename_i b off k n hb hn
    split at h
    · rename_i hr
      simp only [Option.some.injEq, Prod.mk.injEq] at h; obtain ⟨rfl, rfl⟩ := h
      obtain ⟨B, o0, x0, hρ, hp⟩ := (ev_VR hg he h1 hb).ptr_inv
      have hi := (ev_VR hg he h2 hn).i_inv
      refine ⟨rfl, .pointer (some ⟨B, o0 + (off + n.toNat * sz), none⟩), ?_, .ptr hρ⟩
      obtain ⟨j, hj, hj2⟩ := map_some (show (P.info? el).map (·.size) = some sz from hsz)
      have e3 : (⟨B, o0 + off, none⟩ : Addr).add (n.toNat * sz) = ⟨B, o0 + (off + n.toNat * sz), none⟩ := by rw [Addr.add_mid, Nat.add_assoc]
      unfold execOp; rw [ho]; apply run_value
      simp [hp, hi, Instr.indexAt, Instr.sureAddr, asIntOf, run_underlying ht, hr.1, hr.2, sizeOf, typeInfo, hj, hj2, e3]
    · cases h
  · cases h

theorem sim_idx {t x i x' i'} (ho : o.op = .index t x i) (h1 : fitX NG x x' = true) (h2 : fitX NG i i' = true) (ht : P.underlying t = some .string) : Sim P NG o (.idx x' i') := by
  apply Sim.pure_
  intro ρ e a w H v H' hg he hH h
  simp only [aop] at h
  split at h
  · rename_i s k n hb hn
    split at h
    · rename_i hr
      simp only [Option.some.injEq, Prod.mk.injEq] at h; obtain ⟨rfl, rfl⟩ := h
      have hx : a.eval x = .string s := by have := ev_VR hg he h1 hb; generalize a.eval x = X at this; cases this; rfl
      have hi := (ev_VR hg he h2 hn).i_inv
      refine ⟨rfl, .int .u8 (s[n.toNat]'hr.2).toNat, ?_, .i _ _⟩
      unfold execOp; rw [ho]; apply run_value
      have e4 : s[n.toNat]? = some (s[n.toNat]'hr.2) := getElem?_pos s n.toNat hr.2
      simp [hx, hi, Instr.index, asIntOf, run_underlying ht, hr.1, e4]
    · cases h
  · cases h

theorem sim_ext {x y j} (ho : o.op = .extract x j) (hf : fitX NG x y = true) : Sim P NG o (.ext y j) := by
  apply Sim.pure_
  intro ρ e a w H v H' hg he hH h
  simp only [aop] at h
  split at h
  · rename_i vs hb
    obtain ⟨r, hr, e2⟩ := map_some h; cases e2
    have hv := ev_VR hg he hf hb
    obtain ⟨vs', ex, hx⟩ : ∃ vs', a.eval x = .tuple vs' ∧ VRs ρ vs vs'.toList := by
      generalize a.eval x = X at hv
      cases hv with | tup k1 k2 => exact ⟨_, rfl, by simpa using k1, k2⟩
    obtain ⟨u, hu, hv⟩ := hx.get hr
    have hu' : vs'[j]? = some u := by rw [← Array.getElem?_toList]; exact hu
    refine ⟨rfl, u, ?_, hv⟩
    unfold execOp; rw [ho]; apply run_value
    simp [ex, Instr.extract, hu']
  · cases h

theorem sim_mkfn {f first cap as bs} (ho : o.op = .makeFunc (.func f) first cap) (h1 : fitXs NG first.toList as = true) (h2 : fitXs NG cap.toList bs = true) : Sim P NG o (.mkfn f as bs) := by
  apply Sim.pure_
  intro ρ e a w H v H' hg he hH h
  simp only [aop] at h
  split at h
  · rename_i us vs hu hv
    simp only [Option.some.injEq, Prod.mk.injEq] at h; obtain ⟨rfl, rfl⟩ := h
    have k1 := evs_VRs hg he h1 hu
    have k2 := evs_VRs hg he h2 hv
    refine ⟨rfl, .func (.func f) (first.map a.eval) (cap.map a.eval), ?_, .fn ?_ ?_ ?_ ?_⟩
    · unfold execOp; rw [ho]; apply run_value; simp [Instr.makeFunc]
    · simpa using k1.1
    · simpa using k1.2
    · simpa using k2.1
    · simpa using k2.2
  · cases h

theorem sim_mx {c a1 a2 x y} (ho : o.op = .call c) (hc : c.callee = .builtin .max) (ha : c.args.toList = [a1, a2]) (h1 : fitX NG a1 x = true) (h2 : fitX NG a2 y = true) : Sim P NG o (.mx x y) := by
  apply Sim.pure_
  intro ρ e a w H v H' hg he hH h
  simp only [aop] at h
  split at h
  · rename_i u u' hu hu'
    simp only [Option.some.injEq, Prod.mk.injEq] at h; obtain ⟨rfl, rfl⟩ := h
    have e1 := (ev_VR hg he h1 hu).i_inv
    have e2 := (ev_VR hg he h2 hu').i_inv
    refine ⟨rfl, _, ?_, .i _ _⟩
    have hargs : c.args = #[a1, a2] := by rw [← Array.toList_inj]; exact ha
    unfold execOp; rw [ho]
    simp [resolve, hc, hargs, invoke, builtin, Builtin.max_, Builtin.max2, e1, e2]
  · cases h

theorem sim_mn {c a1 a2 x y} (ho : o.op = .call c) (hc : c.callee = .builtin .min) (ha : c.args.toList = [a1, a2]) (h1 : fitX NG a1 x = true) (h2 : fitX NG a2 y = true) : Sim P NG o (.mn x y) := by
  apply Sim.pure_
  intro ρ e a w H v H' hg he hH h
  simp only [aop] at h
  split at h
  · rename_i u u' hu hu'
    simp only [Option.some.injEq, Prod.mk.injEq] at h; obtain ⟨rfl, rfl⟩ := h
    have e1 := (ev_VR hg he h1 hu).i_inv
    have e2 := (ev_VR hg he h2 hu').i_inv
    refine ⟨rfl, _, ?_, .i _ _⟩
    have hargs : c.args = #[a1, a2] := by rw [← Array.toList_inj]; exact ha
    unfold execOp; rw [ho]
    simp [resolve, hc, hargs, invoke, builtin, Builtin.min_, Builtin.min2, e1, e2]
  · cases h

theorem VR.slice_of {ρ : Rho} {u X} {n : Nat} (h : VR ρ u X) (hn : alen u = some n) : ∃ b c, X = .slice b n c := by
  cases h <;> simp only [alen, Option.some.injEq] at hn <;> first | (cases hn; done) | (subst hn; exact ⟨_, _, rfl⟩)

theorem sim_len {c a1 t ts y el} (ho : o.op = .call c) (hc : c.callee = .builtin .len) (ha : c.args.toList = [a1]) (ht : c.argTypes.toList = t :: ts) (h1 : fitX NG a1 y = true)
    (hu : P.underlying t = some (.slice el)) : Sim P NG o (.len y) := by
  apply Sim.pure_
  intro ρ e a w H v H' hg he hH h
  simp only [aop] at h
  split at h
  · rename_i u hev
    obtain ⟨n, hn, e2⟩ := map_some h; cases e2
    have hv := ev_VR hg he h1 hev
    have hargs : c.args = #[a1] := by rw [← Array.toList_inj]; exact ha
    have ht0 : c.argTypes[0]? = some t := by rw [← Array.getElem?_toList, ht]; rfl
    refine ⟨rfl, .int .i64 n, ?_, .i _ _⟩
    obtain ⟨b, cc, hx⟩ := hv.slice_of hn
    unfold execOp; rw [ho]
    simp [resolve, hc, hargs, invoke, builtin, Builtin.len_, ht0, run_underlying hu, hx, goInt]
  · cases h

end
end Go.Proofs.YtcibjklpaljadaaGreat.AM
namespace Go.Proofs.YtcibjklpaljadaaGreat.AM
set_option linter.unusedSimpArgs false
set_option linter.unusedVariables false
open Go Go.RowKit

section
variable {P : Program} {NG : Nat} {o : Oper}

theorem flat_flatten {z : List AV} (h : z.all AV.flat = true) (n : Nat) : ((List.replicate n z).flatten).all AV.flat = true := by
  refine List.all_eq_true.2 fun x hx => ?_
  obtain ⟨l, hl, hx⟩ := List.mem_flatten.1 hx
  rw [(List.mem_replicate.1 hl).2] at hx
  exact List.all_eq_true.1 h x hx

theorem range_zero (zero : Array Value) (n : Nat) : ((Array.range (n * zero.size)).map (fun i => zero[i % zero.size]!)).toList = (List.replicate n zero.toList).flatten := by
  induction n with
  | zero => simp
  | succ n ih =>
    rw [List.replicate_succ', List.flatten_append, ← ih]
    simp only [Array.toList_map, Array.toList_range, Nat.succ_mul, List.range_add, List.map_append, List.flatten_cons, List.flatten_nil, List.append_nil]
    congr 1
    apply List.ext_getElem
    · simp
    · intro i h1 h2
      simp only [List.length_map, List.length_range] at h1
      simp only [List.getElem_map, List.getElem_range, Array.getElem_toList]
      have hi : i < zero.size := h1
      have e1 : (n * zero.size + i) % zero.size = i := by rw [Nat.add_comm, Nat.add_mul_mod_self_right]; exact Nat.mod_eq_of_lt hi
      rw [e1]; exact getElem!_pos zero i hi

theorem map_range0 (f : Nat → Value) : (Array.range 0).map f = #[] := Array.toList_inj.1 (by simp)

theorem sim_mksl {t l c l' c' z el} (ho : o.op = .makeSlice t l c) (h1 : fitX NG l l' = true) (h2 : fitX NG c c' = true) (ht : telem P t = some el) (hz : tzero P el z = true) (hsz : tsize P el = some z.length) (hb : tbytes P el = true) (_ : z.length ≠ 0) : Sim P NG o (.mksl z l' c') := by
  intro ρ e H a w v H' he hH hfr h
  simp only [aop] at h
  split at h
  · rename_i kl ln kc cn hl hc
    split at h
    · rename_i hr
      obtain ⟨hr1, hr2, hr3⟩ := hr
      simp only [Option.some.injEq, Prod.mk.injEq] at h; obtain ⟨rfl, rfl⟩ := h
      have e1 := (ev_VR hH.glob he h1 hl).i_inv
      have e2 := (ev_VR hH.glob he h2 hc).i_inv
      unfold big at hr3
      have ht' : P.underlying t = some (.slice el) := by
        unfold telem at ht; split at ht
        · rename_i E hE; rw [hE]; cases ht; rfl
        · cases ht
      unfold tzero at hz
      split at hz
      · rename_i i hi
        split at hz
        · rename_i u hu
          have hv := okVs_VRs (ρ := ρ) hz
          have hsize : i.size = z.length := by simpa [tsize, hi] using hsz
          have hbytes : i.bytes ≤ 8192 := by simpa [tbytes, hi] using hb
          have hzs : u.cells.size = i.size := by rw [hsize, hv.1.1]; simp
          have wl : IntKind.i64.wrap ln = ln := IntWalk.i64_in _ (by omega)
          have wc : IntKind.i64.wrap cn = cn := IntWalk.i64_in _ (by omega)
          have hlarge : ¬ ((i.bytes : Int) * cn > 2 ^ 48) := by
            have k1 : (i.bytes : Int) * cn ≤ 8192 * cn := Int.mul_le_mul_of_nonneg_right (by omega) (by omega)
            have k2 : (8192 : Int) * cn ≤ 8192 * 8589934592 := Int.mul_le_mul_of_nonneg_left (by omega) (by omega)
            omega
          have hn : ρ H.n = none := hfr _ (Nat.le_refl _) (Nat.lt_succ_self _)
          have hp := hH.push hn (hv.1.flatten_replicate cn.toNat) (flat_flatten hv.2 cn.toNat) [] el
          have hcells : (Array.range (cn.toNat * i.size)).map (fun j => u.cells[j % u.cells.size]!) = ((List.replicate cn.toNat u.cells.toList).flatten ++ []).toArray := by
            apply Array.toList_inj.1
            rw [← hzs, range_zero]; simp
          refine ⟨_, .slice (some ⟨w.heap.size, 0, none⟩) ln.toNat cn.toNat, _, .inl ?_, add_sub hn _, NewB.add _ _ _ (.inl (Nat.le_refl _)), hp, .slE (o0 := 0) (Rho.add_same _ _ _) (by omega), Fr.alloc _ _ _ _⟩
          unfold execOp; rw [ho]; apply run_value
          have hroom : ∀ w : World, (askRoom (cn.toNat * i.bytes)).run P w = .ok () w := by intro w; unfold askRoom; split <;> simp [mark, Sem.run]
          simp only [Instr.makeSlice, Sem.run_bind, run_underlying ht', Result.andThen_ok, e1, e2, asInt, asIntOf, Sem.run_pure, typeInfo, run_program, hi, wl, wc]
          have c1 : (cn < 0 || (i.bytes : Int) * cn > 2 ^ 48) = false := by simp only [Bool.or_eq_false_iff, decide_eq_false_iff_not]; exact ⟨by omega, hlarge⟩
          have c2 : (ln < 0) = False := by simp; omega
          have c3 : (ln > cn) = False := by simp; omega
          simp only [c1, c2, c3, decide_false, Bool.or_self, Bool.false_eq_true, if_false, Sem.run_bind, Sem.run_pure, Result.andThen_ok, hroom, sizeOf, typeInfo, run_program, hi, newRow]
          have hzv : (zeroValue el).run P w = .ok u w := by simp [zeroValue, typeInfo, hi, hu]
          rw [← hcells]
          by_cases hz0 : cn.toNat * i.size = 0
          · simp [hz0, newObj, Sem.run, map_range0]
          · simp [hz0, hzv, newObj, Sem.run]
        · cases hz
      · cases hz
    · cases h
  · cases h

theorem VR.slice_cases {ρ : Rho} {b off len cap X} (h : VR ρ (.sl b off len cap) X) : ∃ B o0 x c, ρ b = some (B, o0, x) ∧ X = .slice (some ⟨B, o0 + off, none⟩) len c ∧ len ≤ c ∧
    (match cap with | .ex c0 => c = c0 | .lb c0 sz => len ≤ c0 ∧ c0 ≤ c ∧ off + c * sz ≤ x | .ro => True) := by
  cases h with
  | slE hq hl => exact ⟨_, _, _, _, hq, rfl, hl, rfl⟩
  | slL hq h1 h2 h3 => exact ⟨_, _, _, _, hq, rfl, by omega, h1, h2, h3⟩
  | slR hq hl => exact ⟨_, _, _, _, hq, rfl, hl, trivial⟩

theorem aint_VR {ρ : Rho} {v X n} (h : VR ρ v X) (k : aint (some v) = some n) : ∃ kk i, X = .int kk i ∧ 0 ≤ i ∧ i.toNat = n := by
  cases h <;> simp only [aint] at k <;> first | (cases k; done) | skip
  split at k
  · rename_i hi; simp only [Option.some.injEq] at k; exact ⟨_, _, rfl, hi, k⟩
  · cases k

theorem sliceBound_run {P : Program} {kk : IntKind} {i : Int} {y : Nat} {code : BoundsCode} (h0 : 0 ≤ i) (h1 : i ≤ y) (w : World) : (Instr.sliceBound (.int kk i) y code).run P w = .ok i.toNat w := by
  simp [Instr.sliceBound, asIntOf, h0, h1]

def VRo (ρ : Rho) : Option AV → Option Value → Prop
  | none, none => True
  | some v, some X => VR ρ v X
  | _, _ => False
theorem evo_VRo {ρ : Rho} {e : Env} {a : Act} (hg : ∀ g, g < NG → ∃ x, ρ g = some (g, 0, x)) (he : RelE ρ e a.tmps) {x y v} (hf : fitO NG x y = true) (hv : evo e y = some v) : VRo ρ v (x.map a.eval) := by
  cases x <;> cases y <;> simp only [fitO] at hf <;> first | (cases hf; done) | skip
  · simp only [evo, Option.some.injEq] at hv; subst hv; trivial
  · simp only [evo] at hv
    obtain ⟨u, hu, rfl⟩ := map_some hv
    exact ev_VR hg he hf hu

theorem bnd_VRo {ρ : Rho} {v X d n} (h : VRo ρ v X) (k : bnd d v = some n) : (v = none ∧ X = none ∧ n = d) ∨ (∃ kk i, X = some (.int kk i) ∧ 0 ≤ i ∧ i.toNat = n ∧ v ≠ none) := by
  cases v <;> cases X <;> simp only [VRo] at h <;> first | (cases h; done) | skip
  · left; simp only [bnd, Option.some.injEq] at k; exact ⟨rfl, rfl, k.symm⟩
  · right; obtain ⟨kk, i, rfl, h0, h1⟩ := aint_VR h k; exact ⟨kk, i, rfl, h0, h1, by simp⟩

theorem run_sliceBounds {P : Program} {ρ : Rho} {lo hi : Option AV} {LO HI : Option Value} {len cap l h : Nat} (w : World) (h1 : VRo ρ lo LO) (h2 : VRo ρ hi HI) (k1 : bnd 0 lo = some l) (k2 : bnd len hi = some h) (hl : l ≤ h) (hc : h ≤ cap) :
    (Instr.sliceBounds true len cap LO HI none).run P w = .ok (l, h, cap) w := by
  rcases bnd_VRo h1 k1 with ⟨_, rfl, rfl⟩ | ⟨kk, i, rfl, a1, a2, _⟩ <;> rcases bnd_VRo h2 k2 with ⟨_, rfl, rfl⟩ | ⟨kk', i', rfl, b1, b2, _⟩
  · simp [Instr.sliceBounds]
  · simp [Instr.sliceBounds, sliceBound_run b1 (show i' ≤ (cap : Int) by omega), b2]
  · simp [Instr.sliceBounds, sliceBound_run a1 (show i ≤ (h : Int) by omega), a2]
  · simp [Instr.sliceBounds, sliceBound_run b1 (show i' ≤ (cap : Int) by omega), b2, sliceBound_run a1 (show i ≤ (h : Int) by omega), a2]

theorem run_sliceBounds3 {P : Program} {ρ : Rho} {lo hi mx : Option AV} {LO HI MX : Option Value} {len cap l h m : Nat} (w : World) (h1 : VRo ρ lo LO) (h2 : VRo ρ hi HI) (h3 : VRo ρ mx MX) (k1 : bnd 0 lo = some l) (k2 : bnd len hi = some h) (k3 : bnd 0 mx = some m)
    (hne : hi ≠ none) (hne2 : mx ≠ none) (hl : l ≤ h) (hm : h ≤ m) (hc : m ≤ cap) :
    (Instr.sliceBounds true len cap LO HI MX).run P w = .ok (l, h, m) w := by
  rcases bnd_VRo h3 k3 with ⟨e, _, _⟩ | ⟨kk2, i2, rfl, c1, c2, _⟩
  · exact absurd e hne2
  rcases bnd_VRo h2 k2 with ⟨e, _, _⟩ | ⟨kk', i', rfl, b1, b2, _⟩
  · exact absurd e hne
  rcases bnd_VRo h1 k1 with ⟨_, rfl, rfl⟩ | ⟨kk, i, rfl, a1, a2, _⟩
  · simp [Instr.sliceBounds, sliceBound_run c1 (show i2 ≤ (cap : Int) by omega), c2, sliceBound_run b1 (show i' ≤ (m : Int) by omega), b2]
  · simp [Instr.sliceBounds, sliceBound_run c1 (show i2 ≤ (cap : Int) by omega), c2, sliceBound_run b1 (show i' ≤ (m : Int) by omega), b2, sliceBound_run a1 (show i ≤ (h : Int) by omega), a2]

theorem sim_slice {t x lo hi mx sz x' lo' hi' mx' el} (ho : o.op = .slice t x lo hi mx) (h1 : fitX NG x x' = true) (h2 : fitO NG lo lo' = true) (h3 : fitO NG hi hi' = true) (h4 : fitO NG mx mx' = true)
    (ht : P.underlying t = some (.slice el)) (hsz : tsize P el = some sz) : Sim P NG o (.slice sz x' lo' hi' mx') := by
  apply Sim.pure_
  intro ρ e a w H v H' hg he hH h
  simp only [aop] at h
  split at h
  · rename_i X LO HI MX hX hLO hHI hMX
    obtain ⟨r, hr, e2⟩ := map_some h; cases e2
    have vX := ev_VR hg he h1 hX
    have vLO := evo_VRo hg he h2 hLO
    have vHI := evo_VRo hg he h3 hHI
    have vMX := evo_VRo hg he h4 hMX
    obtain ⟨j, hj, hj2⟩ := map_some (show (P.info? el).map (·.size) = some sz from hsz)
    have run : ∀ (base : Option Addr) (len cap l h m : Nat), a.eval x = .slice base len cap → (Instr.sliceBounds true len cap (lo.map a.eval) (hi.map a.eval) (mx.map a.eval)).run P w = .ok (l, h, m) w →
        (execOp a.eval o).run P w = .ok (.value (.slice (if m = l then base else base.map (·.add (l * sz))) (h - l) (m - l))) w := by
      intro base len cap l h m ex hb
      unfold execOp; rw [ho]; apply run_value
      simp only [Instr.sliceAt, Sem.run_bind, run_underlying ht, Result.andThen_ok, Instr.slice, ex, hb, sizeOf, typeInfo, run_program, hj, Sem.run_pure, hj2]
    unfold aslice at hr
    split at hr
    · -- nil
      split at hr
      · rename_i k1 k2
        cases hr
        have ex : a.eval x = .slice none 0 0 := by generalize a.eval x = Y at vX; cases vX; rfl
        have hmx : mx.map a.eval = none := by cases hq : mx.map a.eval with | none => rfl | some q => rw [hq] at vMX; exact vMX.elim
        have hb := run_sliceBounds (P := P) (cap := 0) w vLO vHI k1 k2 (Nat.le_refl 0) (Nat.le_refl 0)
        rw [← hmx] at hb
        exact ⟨rfl, _, run _ _ _ _ _ _ ex hb, by simpa using VR.nils⟩
      · cases hr
    · -- a slice
      rename_i b off len cap
      obtain ⟨B, o0, x0, c, hρ, ex, hlc, hcap⟩ := vX.slice_cases
      split at hr
      · rename_i l hq k1 k2
        split at hr
        · rename_i hle
          have hmx : mx.map a.eval = none := by cases hq : mx.map a.eval with | none => rfl | some q => rw [hq] at vMX; exact vMX.elim
          have hb := run_sliceBounds (P := P) (cap := c) w vLO vHI k1 k2 hle.1 (by omega)
          rw [← hmx] at hb
          refine ⟨rfl, _, run _ _ _ _ _ _ ex hb, ?_⟩
          have eadd : ∀ q : Nat, (⟨B, o0 + off, none⟩ : Addr).add q = ⟨B, o0 + (off + q), none⟩ := fun q => by rw [Addr.add_mid, Nat.add_assoc]
          split at hr
          · -- exact
            rename_i c0
            cases hr
            have hc0 : c = c0 := hcap
            subst hc0
            by_cases hcl : c = l
            · rw [if_pos hcl, if_pos hcl]; exact .slE hρ (by omega)
            · rw [if_neg hcl, if_neg hcl, Option.map_some, eadd]; exact .slE hρ (by omega)
          · rename_i c0 z
            obtain ⟨q1, q2, q3⟩ : len ≤ c0 ∧ c0 ≤ c ∧ off + c * z ≤ x0 := hcap
            split at hr
            · rename_i hl0
              cases hr; subst hl0
              have e3 : (if c = 0 then (some (⟨B, o0 + off, none⟩ : Addr)) else (some (⟨B, o0 + off, none⟩ : Addr)).map (·.add (0 * sz))) = some ⟨B, o0 + off, none⟩ := by
                split
                · rfl
                · rw [Option.map_some, eadd, Nat.zero_mul]; rfl
              rw [e3]; exact .slL hρ (by omega) (by omega) (by simpa using q3)
            · split at hr
              · rename_i hl0 hll
                split at hr
                · rename_i hz
                  cases hr
                  subst hz
                  rw [if_neg (by omega), Option.map_some, eadd]
                  refine .slL hρ (by omega) (by omega) ?_
                  have : (c - l) * z + l * z = c * z := by rw [← Nat.add_mul]; congr 1; omega
                  omega
                · cases hr
              · cases hr
                rename_i hl0 hll
                have : hq - l = 0 := by omega
                rw [this]
                by_cases hcl : c = l
                · rw [if_pos hcl]; exact .esl _ _
                · rw [if_neg hcl, Option.map_some]; exact .esl _ _
          · split at hr
            · rename_i hl0
              cases hr; subst hl0
              have e3 : (if c = 0 then (some (⟨B, o0 + off, none⟩ : Addr)) else (some (⟨B, o0 + off, none⟩ : Addr)).map (·.add (0 * sz))) = some ⟨B, o0 + off, none⟩ := by
                split
                · rfl
                · rw [Option.map_some, eadd, Nat.zero_mul]; rfl
              rw [e3]; exact .slR hρ (by omega)
            · split at hr
              · cases hr
                rw [if_neg (by omega), Option.map_some, eadd]
                exact .slR hρ (by omega)
              · cases hr
                have : hq - l = 0 := by omega
                rw [this]
                by_cases hcl : c = l
                · rw [if_pos hcl]; exact .esl _ _
                · rw [if_neg hcl, Option.map_some]; exact .esl _ _
        · cases hr
      · rename_i l h m k1 k2
        split at hr
        · rename_i hv m2 k3
          split at hr
          · rename_i hle
            cases hr
            have hb := run_sliceBounds3 (P := P) (cap := c) w vLO vHI vMX k1 k2 k3 (by simp) (by simp) hle.1 hle.2.1 (by omega)
            refine ⟨rfl, _, run _ _ _ _ _ _ ex hb, ?_⟩
            have eadd : ∀ q : Nat, (⟨B, o0 + off, none⟩ : Addr).add q = ⟨B, o0 + (off + q), none⟩ := fun q => by rw [Addr.add_mid, Nat.add_assoc]
            by_cases hcl : m2 = l
            · rw [if_pos hcl, if_pos hcl]; exact .slE hρ (by omega)
            · rw [if_neg hcl, if_neg hcl, Option.map_some, eadd]; exact .slE hρ (by omega)
          · cases hr
        · cases hr
      · cases hr
    · -- empty
      split at hr
      · rename_i k1 k2
        cases hr
        obtain ⟨ad, c, ex⟩ : ∃ ad c, a.eval x = .slice (some ad) 0 c := by generalize a.eval x = Y at vX; cases vX; exact ⟨_, _, rfl⟩
        have hmx : mx.map a.eval = none := by cases hq : mx.map a.eval with | none => rfl | some q => rw [hq] at vMX; exact vMX.elim
        have hb := run_sliceBounds (P := P) (cap := c) w vLO vHI k1 k2 (Nat.le_refl 0) (Nat.zero_le _)
        rw [← hmx] at hb
        refine ⟨rfl, _, run _ _ _ _ _ _ ex hb, ?_⟩
        by_cases hcl : c = 0
        · rw [if_pos hcl]; exact .esl _ _
        · rw [if_neg hcl, Option.map_some]; exact .esl _ _
      · cases hr
    · cases hr
  · cases h

theorem splice_zip (cells : Array Value) (off : Nat) : ∀ (l : List Value) (j : Nat) (cs : Array Value), off + j + l.length ≤ cs.size →
    ((l.zipIdx j).foldl (fun cs (c, j) => cs.setIfInBounds (off + j) c) cs).toList = cs.toList.take (off + j) ++ l ++ cs.toList.drop (off + j + l.length)
  | [], j, cs, _ => by simp
  | v :: l, j, cs, h => by
    simp only [List.zipIdx_cons, List.foldl_cons]
    rw [splice_zip cells off l (j + 1) _ (by simp at h ⊢; omega)]
    have e := list_seg_step cs.toList (off + j) v l (by simp at h ⊢; omega)
    simpa [Array.toList_setIfInBounds, Nat.add_assoc] using e

end
end Go.Proofs.YtcibjklpaljadaaGreat.AM
namespace Go.Proofs.YtcibjklpaljadaaGreat.AM
set_option linter.unusedSimpArgs false
set_option linter.unusedVariables false
open Go Go.RowKit

section
variable {P : Program} {NG : Nat} {o : Oper}

theorem VRs.splice {ρ : Rho} {l l' m m'} (h : VRs ρ l l') (k : VRs ρ m m') (off : Nat) : VRs ρ (splice l off m) (l'.take off ++ m' ++ l'.drop (off + m'.length)) := by
  unfold AM.splice
  rw [k.1]
  exact ((h.take off).append k).append (h.drop _)
theorem splice_flat {l m : List AV} (h : l.all AV.flat = true) (k : m.all AV.flat = true) (off : Nat) : (splice l off m).all AV.flat = true := by
  unfold splice
  simp only [List.all_append, Bool.and_eq_true]
  exact ⟨⟨List.all_eq_true.2 fun x hx => List.all_eq_true.1 h x (List.mem_of_mem_take hx), k⟩, List.all_eq_true.2 fun x hx => List.all_eq_true.1 h x (List.mem_of_mem_drop hx)⟩

def PartsVR (ρ : Rho) (place : Nat → Option (Nat × Nat)) : List (Nat × Nat × AV) → List (Nat × Value) → Prop
  | [], [] => True
  | (o, s, v) :: ps, (i, u) :: qs => place i = some (o, s) ∧ VR ρ v u ∧ PartsVR ρ place ps qs
  | _, _ => False

theorem fill_VRs {ρ : Rho} {place : Nat → Option (Nat × Nat)} : ∀ (ps : List (Nat × Nat × AV)) (qs : List (Nat × Value)) (cs : List AV) (cells : Array Value) (res : List AV), PartsVR ρ place ps qs → VRs ρ cs cells.toList → cs.all AV.flat = true →
    fill cs ps = some res → ∃ cells', Instr.fill place cells qs = some cells' ∧ VRs ρ res cells'.toList ∧ res.all AV.flat = true
  | [], [], cs, cells, res, _, hv, hf, h => by
    simp only [fill, Option.some.injEq] at h; subst h
    exact ⟨cells, rfl, hv, hf⟩
  | (off, s, v) :: ps, (i, u) :: qs, cs, cells, res, hp, hv, hf, h => by
    obtain ⟨h1, h2, h3⟩ := hp
    simp only [fill] at h
    split at h
    · rename_i hc
      obtain ⟨c1, c2, c3⟩ := hc
      have hcl := h2.cells
      have hus : u.cells.size = s := by rw [← Array.length_toList, ← hcl.1]; exact c1
      have hsz : cells.toList.length = cs.length := hv.1.symm
      have e := splice_zip cells off u.cells.toList 0 cells (by simp at hsz ⊢; omega)
      have e' : (u.cells.zipIdx.foldl (fun cs (c, j) => cs.setIfInBounds (off + j) c) cells).toList = cells.toList.take off ++ u.cells.toList ++ cells.toList.drop (off + u.cells.toList.length) := by
        rw [← Array.foldl_toList, Array.toList_zipIdx]
        simpa using e
      obtain ⟨cells', g1, g2, g3⟩ := fill_VRs ps qs _ _ res h3 (by rw [e']; exact hv.splice hcl off) (splice_flat hf (h2.flat c2) off) h
      refine ⟨cells', ?_, g2, g3⟩
      simp only [Instr.fill, h1]
      rw [if_neg]
      · exact g1
      · have : cells.size = cs.length := by rw [← Array.length_toList]; exact hsz
        simp [hus]; omega
    · cases h
  | [], _ :: _, _, _, _, hp, _, _, _ => hp.elim
  | _ :: _, [], _, _, _, hp, _, _, _ => hp.elim

theorem run_places {P : Program} (w : World) : ∀ (l : List Field), l.all (fun f => (tsize P f.type).isSome) = true →
    (l.mapM (fun (f : Field) => do pure (f.offset, ← sizeOf f.type) : Field → Sem (Nat × Nat))).run P w = .ok (l.map fun f => (f.offset, (tsize P f.type).getD 0)) w
  | [], _ => rfl
  | f :: l, h => by
    simp only [List.all_cons, Bool.and_eq_true] at h
    have ih := run_places w l h.2
    obtain ⟨s, hs⟩ := Option.isSome_iff_exists.mp h.1
    obtain ⟨i, hi, hi2⟩ := map_some (show (P.info? f.type).map (·.size) = some s from hs)
    simp only [List.mapM_cons, Sem.run_bind, sizeOf, typeInfo, run_program, hi, Result.andThen_ok, Sem.run_pure, List.map_cons, hs, Option.getD_some, hi2] at ih ⊢
    rw [ih]
    simp

theorem fitParts_VR {ρ : Rho} {e : Env} {a : Act} (hg : ∀ g, g < NG → ∃ x, ρ g = some (g, 0, x)) (he : RelE ρ e a.tmps) {fs : List Field} {place : Nat → Option (Nat × Nat)}
    (hpl : ∀ i f, fs[i]? = some f → place i = some (f.offset, (tsize P f.type).getD 0)) : ∀ (ps : List (Nat × Operand)) (qs : List (Nat × Nat × AX)) vs, fitParts P NG fs ps qs = true → evParts e qs = some vs →
    PartsVR ρ place vs (ps.map fun x => (x.1, a.eval x.2))
  | [], [], vs, _, h => by simp only [evParts, Option.some.injEq] at h; subst h; trivial
  | (i, x) :: ps, (off, s, y) :: qs, vs, hf, h => by
    simp only [fitParts, Bool.and_eq_true] at hf
    obtain ⟨⟨h1, h2⟩, h3⟩ := hf
    simp only [evParts] at h
    split at h
    · rename_i v hv
      obtain ⟨us, hu, rfl⟩ := map_some h
      split at h1
      · rename_i f hfi
        simp only [Bool.and_eq_true, beq_iff_eq] at h1
        exact ⟨by rw [hpl i f hfi, h1.1, h1.2]; rfl, ev_VR hg he h2 hv, fitParts_VR hg he hpl ps qs us h3 hu⟩
      · cases h1
    · cases h
  | [], _ :: _, _, hf, _ => by simp [fitParts] at hf
  | _ :: _, [], _, hf, _ => by simp [fitParts] at hf

theorem fitElems_VR {ρ : Rho} {e : Env} {a : Act} (hg : ∀ g, g < NG → ∃ x, ρ g = some (g, 0, x)) (he : RelE ρ e a.tmps) {sz : Nat} : ∀ (ps : List (Nat × Operand)) (qs : List (Nat × Nat × AX)) vs, fitElems NG sz ps qs = true → evParts e qs = some vs →
    PartsVR ρ (fun i => some (i * sz, sz)) vs (ps.map fun x => (x.1, a.eval x.2))
  | [], [], vs, _, h => by simp only [evParts, Option.some.injEq] at h; subst h; trivial
  | (i, x) :: ps, (off, s, y) :: qs, vs, hf, h => by
    simp only [fitElems, Bool.and_eq_true, beq_iff_eq] at hf
    obtain ⟨⟨⟨h1, h1'⟩, h2⟩, h3⟩ := hf
    simp only [evParts] at h
    split at h
    · rename_i v hv
      obtain ⟨us, hu, rfl⟩ := map_some h
      exact ⟨by rw [← h1, ← h1'], ev_VR hg he h2 hv, fitElems_VR hg he ps qs us h3 hu⟩
    · cases h
  | [], _ :: _, _, hf, _ => by simp [fitElems] at hf
  | _ :: _, [], _, hf, _ => by simp [fitElems] at hf

theorem tzero_inv {t : TypeId} {z : List AV} (h : tzero P t z = true) : ∃ i u, P.info? t = some i ∧ i.zero = some u ∧ okVs u.cells.toList z = true := by
  unfold tzero at h
  split at h
  · rename_i i hi
    split at h
    · rename_i u hu; exact ⟨i, u, hi, hu, h⟩
    · cases h
  · cases h

theorem sim_build {t ps z qs fs} (ho : o.op = .build t ps) (hz : tzero P t z = true) (hu : P.underlying t = some (.struct fs)) (hf : fitParts P NG fs.toList ps.toList qs = true) (hs : fs.toList.all (fun f => (tsize P f.type).isSome) = true) : Sim P NG o (.build z qs) := by
  apply Sim.pure_
  intro ρ e a w H v H' hg he hH h
  simp only [aop] at h
  split at h
  · rename_i vs hvs
    obtain ⟨res, hr, e2⟩ := map_some h; cases e2
    obtain ⟨i, u, hi, hzu, hok⟩ := tzero_inv hz
    have hv0 := okVs_VRs (ρ := ρ) hok
    let places : List (Nat × Nat) := fs.toList.map fun (f : Field) => (f.offset, (tsize P f.type).getD 0)
    have hpl : ∀ (j : Nat) (f : Field), fs.toList[j]? = some f → (places.toArray[·]?) j = some (f.offset, (tsize P f.type).getD 0) := by
      intro j f hj
      simp only [List.getElem?_toArray, places, List.getElem?_map, hj, Option.map_some]
    obtain ⟨cells', g1, g2, g3⟩ := fill_VRs vs _ z u.cells res (fitParts_VR hg he hpl _ _ _ hf hvs) hv0.1 hv0.2 hr
    refine ⟨rfl, .agg cells', ?_, .agg g3 (by rw [← Array.length_toList]; exact g2.1) g2.2⟩
    have hm : (fs.mapM (fun (f : Field) => do pure (f.offset, ← sizeOf f.type) : Field → Sem (Nat × Nat))).run P w = .ok places.toArray w := by
      rw [Array.mapM_eq_mapM_toList, Sem.run_map, run_places w _ hs]; rfl
    unfold execOp; rw [ho]; apply run_value
    have hpt : ((ps.map fun (i, x) => (i, a.eval x)).toList) = ps.toList.map fun x => (x.1, a.eval x.2) := by simp
    simp only [Instr.build, Sem.run_bind, zeroValue, typeInfo, run_program, hi, hzu, Result.andThen_ok, Sem.run_pure, run_underlying hu, hm, hpt, g1]
  · cases h

theorem sim_bsl {t len ps z qs el i u} (ho : o.op = .buildSlice t len ps) (ht : P.underlying t = some (.slice el)) (hi : P.info? el = some i) (hzu : i.zero = some u) (hlen : len * i.size ≤ 16777216)
    (hf : fitElems NG i.size ps.toList qs = true) (hok : okVs ((List.range (len * i.size)).map fun j => u.cells[j % u.cells.size]!) z = true) : Sim P NG o (.bsl z len qs) := by
  intro ρ e H a w v H' he hH hfr h
  simp only [aop] at h
  split at h
  · rename_i vs hvs
    obtain ⟨res, hr, e2⟩ := map_some h; cases e2
    have hv0 := okVs_VRs (ρ := ρ) hok
    let c0 : Array Value := (Array.range (len * i.size)).map fun j => u.cells[j % u.cells.size]!
    have hc0 : c0.toList = (List.range (len * i.size)).map fun j => u.cells[j % u.cells.size]! := by simp [c0]
    obtain ⟨cells', g1, g2, g3⟩ := fill_VRs vs _ z c0 res (fitElems_VR hH.glob he _ _ _ hf hvs) (by rw [hc0]; exact hv0.1) hv0.2 hr
    have hn : ρ H.n = none := hfr _ (Nat.le_refl _) (Nat.lt_succ_self _)
    have hp := hH.push hn g2 g3 [] el
    refine ⟨_, .slice (some ⟨w.heap.size, 0, none⟩) len len, _, .inl ?_, add_sub hn _, NewB.add _ _ _ (.inl (Nat.le_refl _)), hp, .slE (o0 := 0) (Rho.add_same _ _ _) (Nat.le_refl _), Fr.alloc _ _ _ _⟩
    unfold execOp; rw [ho]; apply run_value
    have hpt : ((ps.map fun (i, x) => (i, a.eval x)).toList) = ps.toList.map fun x => (x.1, a.eval x.2) := by simp
    have hbig : ¬ (len * i.size > 2 ^ 24) := by omega
    simp only [Instr.buildSlice, Sem.run_bind, run_underlying ht, Result.andThen_ok, sizeOf, typeInfo, run_program, hi, Sem.run_pure, if_neg hbig, hpt, newRow]
    by_cases h0 : len * i.size = 0
    · have e0 : ∀ f : Nat → Value, (Array.range (len * i.size)).map f = c0 := fun f => by simp only [c0, h0, map_range0]
      simp only [if_pos h0, e0, g1]
      simp [newObj, Sem.run]
    · have hzv : (zeroValue el).run P w = .ok u w := by simp [zeroValue, typeInfo, hi, hzu]
      simp only [if_neg h0, Sem.run_bind, hzv, Sem.run_pure, Result.andThen_ok]
      have e0 : (Array.range (len * i.size)).map (fun j => u.cells[j % u.cells.size]!) = c0 := rfl
      simp only [e0, g1]
      simp [newObj, Sem.run]
  · cases h

theorem VR.src {ρ : Rho} {H : AH} {w : World} (hH : RelH NG ρ H w) {x X} {n sz : Nat} {new : List AV} {tx ex : TypeId} (hx : VR ρ x X) (hn : alen x = some n) (he : elems H sz x = some new) (ht : P.underlying tx = some (.slice ex)) :
    ∃ news : List Value, VRs ρ new news ∧ new.all AV.flat = true ∧ new.length = n * sz ∧ Src P sz tx X n news w := by
  cases x <;> simp only [alen, elems, Option.some.injEq] at hn he <;> first | (cases hn; done) | skip
  · rename_i b off len cap
    subst hn
    obtain ⟨B, o0, x0, c, hρ, rfl, hlc, _⟩ := hx.slice_cases
    simp only [AH.loadN] at he
    cases hk : H.bk b with
    | none => simp [hk] at he
    | some k =>
      simp only [hk, Option.bind_some, seg] at he
      split at he
      · rename_i hfit
        have hu' : (k.cells.drop off).take (len * sz) = new := by simpa using he
        have hlen : new.length = len * sz := by rw [← hu']; simp; omega
        have hrow := (hH.row b B o0 x0 k hρ hk).2
        have hcell : ∀ i, i < len * sz → ∃ cv, w.cell? ⟨B, o0 + off + i, none⟩ = some cv ∧ ∃ y, new[i]? = some y ∧ y.flat = true ∧ VR ρ y cv := by
          intro i hi
          have hki : off + i < k.cells.length := by omega
          obtain ⟨hfl, cv, hc, hr⟩ := hrow (off + i) _ (List.getElem?_eq_getElem hki)
          refine ⟨cv, by rw [Nat.add_assoc]; exact hc, _, ?_, hfl, hr⟩
          rw [← hu', List.getElem?_take, if_pos hi, List.getElem?_drop, List.getElem?_eq_getElem hki]
        let cs : List Value := (List.range (len * sz)).map fun i => (w.cell? ⟨B, o0 + off + i, none⟩).getD undef
        have hcs : cs.length = len * sz := by simp [cs]
        have hvr : VRs ρ new cs := by
          refine ⟨by omega, fun i y v hy hv => ?_⟩
          have hj : i < len * sz := by have := (List.getElem?_eq_some_iff.1 hv).1; omega
          obtain ⟨cv, hc, y', hy', _, hr⟩ := hcell i hj
          rw [hy] at hy'; cases hy'
          simp [cs, hj, hc] at hv
          rw [← hv]; exact hr
        have hfl : new.all AV.flat = true := by
          refine List.all_eq_true.2 fun y hy => ?_
          obtain ⟨i, hi, rfl⟩ := List.mem_iff_getElem.1 hy
          obtain ⟨_, _, y', hy', hf, _⟩ := hcell i (by omega)
          rw [List.getElem?_eq_getElem hi] at hy'; cases hy'; exact hf
        refine ⟨cs, hvr, hfl, hlen, Src.ofSlice (P := P) w ht _ len c cs hcs ?_ (hvr.oneCell hfl)⟩
        intro j u hu
        have hj : j < len * sz := by have := (List.getElem?_eq_some_iff.1 hu).1; omega
        obtain ⟨cv, hc, _⟩ := hcell j hj
        simp [cs, hj, hc] at hu
        rw [Addr.add_mid, hc, hu]
      · cases he
  · subst hn; subst he
    cases hx with
    | esl ad c => exact ⟨[], VRs.nil ρ, rfl, by simp, Src.ofSlice (P := P) w ht ad 0 c [] (by simp) (fun j u h => by simp at h) (fun u h => by cases h)⟩
  · subst hn; subst he
    cases hx with
    | nils => exact ⟨[], VRs.nil ρ, rfl, by simp, Src.ofNil (P := P) w ht 0⟩

theorem firstCells_slice {ρ : Rho} {H : AH} {w : World} (hH : RelH NG ρ H w) {b off len cap X : _} {sz : Nat} {old : List AV} {tx ex : TypeId} (hx : VR ρ (.sl b off len cap) X) (he : H.loadN b off (len * sz) = some old) (ht : P.underlying tx = some (.slice ex)) :
    ∃ olds : List Value, VRs ρ old olds ∧ old.all AV.flat = true ∧ old.length = len * sz ∧ (Builtin.firstCells sz len X).run P w.drew = .ok olds.toArray w.drew := by
  obtain ⟨olds, h1, h2, h3, h4⟩ := hx.src (P := P) (n := len) (sz := sz) (new := old) hH rfl he ht
  exact ⟨olds, h1, h2, h3, h4.cellsD⟩

theorem run_append_row {t tx ty e : TypeId} {i : TypeInfo} (ht : P.underlying t = some (.slice e)) (hi : P.info? e = some i) (B off sLen sCap : Nat) (X : Value) (n : Nat) (news : List Value) {w : World} (hs : Src P i.size tx X n news w)
    (hroom : sLen + n ≤ sCap) {cur : Array Value} {el : TypeId} (hg : w.heap[B]? = some (.cells cur el (0, 0))) (hfit : off + sLen * i.size + news.length ≤ cur.size) :
    (Builtin.append_ #[t, tx] ty #[.slice (some ⟨B, off, none⟩) sLen sCap, X]).run P w =
      .ok (.slice (some ⟨B, off, none⟩) (sLen + n) sCap) (w.setRow B (cur.toList.take (off + sLen * i.size) ++ news ++ cur.toList.drop (off + sLen * i.size + news.length)).toArray) := by
  have hst := run_storeCells_at P B (off + sLen * i.size) el news 0 cur w hg (by simpa using hfit) hs.one
  simp only [Nat.add_zero] at hst
  have hadd : (⟨B, off, none⟩ : Addr).add (sLen * i.size) = ⟨B, off + sLen * i.size, none⟩ := Addr.add_mid _ _ _
  rcases hs.kind with ⟨e', hk⟩ | hk <;> simp [Builtin.append_, run_underlying ht, run_underlying hk, sizeOf, typeInfo, hi, hs.len, hroom, hs.cells, hadd, hst]

theorem run_append_nothing' {t tx ty e : TypeId} {i : TypeInfo} (ht : P.underlying t = some (.slice e)) (hi : P.info? e = some i) (base : Option Addr) (sLen sCap : Nat) (X : Value) {w : World} (hs : Src P i.size tx X 0 [] w) (hle : sLen ≤ sCap) :
    (Builtin.append_ #[t, tx] ty #[.slice base sLen sCap, X]).run P w = .ok (.slice base sLen sCap) w := by
  cases base <;> rcases hs.kind with ⟨e', hk⟩ | hk <;> simp [Builtin.append_, run_underlying ht, run_underlying hk, sizeOf, typeInfo, hi, hs.len, hle, hs.cells, storeCells]

theorem fits_cap {need old bytes : Nat} (h : old < need) (hb : bytes ≤ 8192) (hn : need ≤ big) : Builtin.nextslicecap need old * bytes ≤ 281474976710656 := by
  apply growslice_fits h
  unfold big at hn
  calc need * bytes ≤ 8589934592 * 8192 := Nat.mul_le_mul hn hb
    _ ≤ 140737488355328 := by decide

structure AppSrc (P : Program) (t tx ty el : TypeId) (i : TypeInfo) (z : Value) (X : Value) (n : Nat) (news : List Value) (w : World) : Prop where
  row : ∀ (B off sLen sCap : Nat), sLen + n ≤ sCap → ∀ {cur : Array Value} {e0 : TypeId}, w.heap[B]? = some (.cells cur e0 (0, 0)) → off + sLen * i.size + news.length ≤ cur.size →
    (Builtin.append_ #[t, tx] ty #[.slice (some ⟨B, off, none⟩) sLen sCap, X]).run P w =
      .ok (.slice (some ⟨B, off, none⟩) (sLen + n) sCap) (w.setRow B (cur.toList.take (off + sLen * i.size) ++ news ++ cur.toList.drop (off + sLen * i.size + news.length)).toArray)
  nothing : n = 0 → ∀ (base : Option Addr) (sLen sCap : Nat), sLen ≤ sCap → (Builtin.append_ #[t, tx] ty #[.slice base sLen sCap, X]).run P w = .ok (.slice base sLen sCap) w
  grow : ∀ (base : Option Addr) (sLen sCap : Nat) (olds : List Value), (Builtin.firstCells i.size sLen (.slice base sLen sCap)).run P w.drew = .ok olds.toArray w.drew → sCap < sLen + n → ((sLen + n : Nat) : Int) ≤ 9223372036854775807 →
    Builtin.nextslicecap (sLen + n) sCap * i.bytes ≤ 281474976710656 →
    (Builtin.append_ #[t, tx] ty #[.slice base sLen sCap, X]).run P w =
      .ok (.slice (some ⟨w.heap.size, 0, none⟩) (sLen + n) (grownCap w (sLen + n) sCap el))
        (w.drew.alloc (.cells ((olds ++ news).toArray ++ Builtin.zeroCells z.cells (grownCap w (sLen + n) sCap el - (sLen + n))) el))
theorem AppSrc.of {t u ty el : TypeId} {i : TypeInfo} {z X : Value} {n : Nat} {news : List Value} {w : World} (ht : P.underlying t = some (.slice el)) (hi : P.info? el = some i) (hz : i.zero = some z) (g4 : Src P i.size u X n news w) (hl : news.length = n * i.size) : AppSrc P t u ty el i z X n news w where
  row := fun B off sLen sCap hroom cur e0 hheap hfit => run_append_row (P := P) (ty := ty) ht hi B off sLen sCap X n news g4 hroom hheap hfit
  nothing := fun h0 base sLen sCap hle => by
    subst h0
    have : news = [] := List.eq_nil_of_length_eq_zero (by omega)
    subst this
    exact run_append_nothing' (P := P) (ty := ty) ht hi base sLen sCap X g4 hle
  grow := fun base sLen sCap olds hold hg h63 hfit => run_append_grow_src (P := P) w t u ty el i z ht hi hz base sLen sCap olds hold X n news g4 hg h63 hfit
theorem appG {o : Oper} {a : Act} {w : World} {ρ : Rho} {H H' : AH} {S v : AV} {a1 : Operand} {Xv : Value} {t u el : TypeId} {i : TypeInfo} {z : Value} {n : Nat} {new : List AV} {news : List Value} (ht : P.underlying t = some (.slice el)) (hi : P.info? el = some i) (hb : i.bytes ≤ 8192) (hz : i.zero = some z) (hzs : z.cells.size = i.size)
    (hH : RelH NG ρ H w) (hfr : Fresh ρ H.n H'.n) (vS : VR ρ S (a.eval a1)) (run : ∀ r w', (Builtin.append_ #[t, u] o.type #[a.eval a1, Xv]).run P w = .ok r w' → Came P o a w r w') (g1 : VRs ρ new news) (g2 : new.all AV.flat = true) (g3 : new.length = n * i.size)
    (g4 : AppSrc P t u o.type el i z Xv n news w) (h : aapp H i.size S n new = some (v, H')) :
    ∃ ρ' cv w', Came P o a w cv w' ∧ Sub ρ ρ' ∧ NewB ρ H w ρ' H'.n ∧ RelH NG ρ' H' w' ∧ VR ρ' v cv ∧ Fr ρ H w w' := by
  have hlen : news.length = n * i.size := g1.1.symm.trans g3
  have grow : ∀ (base : Option Addr) (len cap : Nat) (old : List AV) (olds : List Value), a.eval a1 = .slice base len cap → VRs ρ old olds → old.all AV.flat = true → old.length = len * i.size →
      (Builtin.firstCells i.size len (.slice base len cap)).run P w.drew = .ok olds.toArray w.drew → cap < len + n → len + n ≤ big → ρ H.n = none → ∀ H2, RelH NG ρ H2 w → H2.n = H.n →
      ∃ ρ' cv w', Came P o a w cv w' ∧ Sub ρ ρ' ∧ NewB ρ H w ρ' (H.n + 1) ∧ RelH NG ρ' (H2.push (old ++ new)) w' ∧ VR ρ' (.sl H.n 0 (len + n) (.lb (len + n) i.size)) cv ∧ Fr ρ H w w' := by
    intro base len cap old olds ex ho1 ho2 ho3 hfc hcap hbig hn H2 hH2 hn2
    have hr := g4.grow base len cap olds hfc hcap (by unfold big at hbig; omega) (fits_cap hcap hb hbig)
    rw [← ex] at hr
    have hH3 : RelH NG ρ H2 w.drew := hH2.heap_eq rfl
    have hp := hH3.push (by rw [hn2]; exact hn) (ho1.append g1) (by simp [ho2, g2]) (Builtin.zeroCells z.cells (grownCap w (len + n) cap el - (len + n))).toList el
    have harr : ((olds ++ news).toArray ++ Builtin.zeroCells z.cells (grownCap w (len + n) cap el - (len + n))) = ((olds ++ news) ++ (Builtin.zeroCells z.cells (grownCap w (len + n) cap el - (len + n))).toList).toArray := by
      apply Array.toList_inj.1; simp
    rw [harr] at hr
    rw [hn2] at hp
    have hcapg : len + n ≤ grownCap w (len + n) cap el := by unfold grownCap; simp only [Question.cut]; omega
    have hzc : (Builtin.zeroCells z.cells (grownCap w (len + n) cap el - (len + n))).toList.length = (grownCap w (len + n) cap el - (len + n)) * i.size := by
      rw [Array.length_toList, size_zeroCells, hzs]
    have ho4 : olds.length = len * i.size := ho1.1.symm.trans ho3
    refine ⟨_, _, _, run _ _ hr, add_sub hn _, NewB.add _ _ _ (.inl (Nat.le_refl _)), hp, ?_, ⟨rfl, rfl, rfl, ?_, fun B hB _ => ?_⟩⟩
    · refine VR.slL (o0 := 0) (Rho.add_same _ _ _) (Nat.le_refl _) hcapg ?_
      rw [List.length_append, ho4, hlen, hzc, Nat.zero_add, ← Nat.add_mul, ← Nat.add_mul]
      apply Nat.mul_le_mul_right; omega
    · show _ ≤ (w.heap.push _).size
      rw [Array.size_push]; omega
    · exact Below.heap_alloc w.drew _ B hB
  cases S with
  | nils =>
    simp only [aapp] at h
    have ex : a.eval a1 = .slice none 0 0 := by generalize a.eval a1 = Y at vS; cases vS; rfl
    split at h
    · rename_i hn0
      subst hn0
      simp only [Option.some.injEq, Prod.mk.injEq] at h; obtain ⟨rfl, rfl⟩ := h
      have hnews : news = [] := List.eq_nil_of_length_eq_zero (by omega)
      subst hnews
      have hr := g4.nothing rfl none 0 0 (Nat.le_refl 0)
      rw [← ex] at hr
      exact ⟨ρ, _, w, run _ _ hr, Sub.refl ρ, NewB.refl _ _ _ _, hH, vS, Fr.refl _ _ _⟩
    · split at h
      · rename_i hn0 hbig
        simp only [Option.some.injEq, Prod.mk.injEq] at h; obtain ⟨rfl, rfl⟩ := h
        have := grow none 0 0 [] [] ex (VRs.nil ρ) rfl (by simp) (by simp [Builtin.firstCells]) (by omega) (by simpa using hbig) (hfr _ (Nat.le_refl _) (Nat.lt_succ_self _)) H hH rfl
        simp only [Nat.zero_add, List.nil_append] at this
        exact this
      · cases h
  | esl =>
    simp only [aapp] at h
    split at h
    · rename_i hn0
      subst hn0
      simp only [Option.some.injEq, Prod.mk.injEq] at h; obtain ⟨rfl, rfl⟩ := h
      obtain ⟨ad, cc, ex⟩ : ∃ ad cc, a.eval a1 = .slice (some ad) 0 cc := by generalize a.eval a1 = Y at vS; cases vS; exact ⟨_, _, rfl⟩
      have hnews : news = [] := List.eq_nil_of_length_eq_zero (by omega)
      subst hnews
      have hr := g4.nothing rfl (some ad) 0 cc (Nat.zero_le _)
      rw [← ex] at hr
      exact ⟨ρ, _, w, run _ _ hr, Sub.refl ρ, NewB.refl _ _ _ _, hH, vS, Fr.refl _ _ _⟩
    · cases h
  | sl b off len cap =>
    simp only [aapp] at h
    obtain ⟨B, o0, x0, cc, hρ, ex, hlc, hcap⟩ := vS.slice_cases
    split at h
    · rename_i hn0
      subst hn0
      simp only [Option.some.injEq, Prod.mk.injEq] at h; obtain ⟨rfl, rfl⟩ := h
      have hnews : news = [] := List.eq_nil_of_length_eq_zero (by omega)
      subst hnews
      have hr := g4.nothing rfl (some ⟨B, o0 + off, none⟩) len cc hlc
      rw [← ex] at hr
      exact ⟨ρ, _, w, run _ _ hr, Sub.refl ρ, NewB.refl _ _ _ _, hH, vS, Fr.refl _ _ _⟩
    · split at h
      · cases h
      · rename_i hn0 hbig
        have inplace : ∀ H1, H.store b (off + len * i.size) new = some H1 → len + n ≤ cc → ∀ v', VR ρ v' (.slice (some ⟨B, o0 + off, none⟩) (len + n) cc) →
            ∃ ρ' cv w', Came P o a w cv w' ∧ Sub ρ ρ' ∧ NewB ρ H w ρ' H1.n ∧ RelH NG ρ' H1 w' ∧ VR ρ' v' cv ∧ Fr ρ H w w' := by
          intro H1 hst hroom v' hv'
          unfold AH.store at hst
          split at hst
          · rename_i k hk
            split at hst
            · rename_i hcnd
              have e3 : H1 = H.put b (some ⟨splice k.cells (off + len * i.size) new, true⟩) := by simpa using hst.symm
              subst e3
              obtain ⟨cur, elc, hheap, hx⟩ := hH.own b B o0 x0 k hρ hk hcnd.1
              have hkx := (hH.row b B o0 x0 k hρ hk).1
              have hnl := g1.1
              have hr := g4.row B (o0 + off) len cc hroom hheap (by omega)
              rw [← ex] at hr
              have hs := hH.store hρ hk hcnd.1 hheap hx g1 g2 hcnd.2
              rw [← Nat.add_assoc] at hs
              exact ⟨ρ, _, _, run _ _ hr, Sub.refl ρ, NewB.refl _ _ _ _, hs, hv', Fr.setRow hH hρ hk hcnd.1 _⟩
            · cases hst
          · cases hst
        split at h
        · cases h
        · -- exact
          rename_i c0
          have hc0 : cc = c0 := hcap
          subst hc0
          split at h
          · rename_i hroom
            obtain ⟨H1, hst, e2⟩ := map_some h; cases e2
            exact inplace _ hst hroom _ (.slE hρ hroom)
          · rename_i hroom
            split at h
            · rename_i old hold
              simp only [Option.some.injEq, Prod.mk.injEq] at h; obtain ⟨rfl, rfl⟩ := h
              obtain ⟨olds, q1, q2, q3, q4⟩ := firstCells_slice (P := P) hH vS hold ht
              rw [ex] at q4
              exact grow (some ⟨B, o0 + off, none⟩) len cc old olds ex q1 q2 q3 q4 (by omega) (by omega) (hfr _ (Nat.le_refl _) (Nat.lt_succ_self _)) H hH rfl
            · cases h
        · rename_i c0 z0
          obtain ⟨p1, p2, p3⟩ : len ≤ c0 ∧ c0 ≤ cc ∧ off + cc * z0 ≤ x0 := hcap
          split at h
          · cases h
          · rename_i hz0
            have hz1 : z0 = i.size := by omega
            subst hz1
            split at h
            · rename_i hroom
              obtain ⟨H1, hst, e2⟩ := map_some h; cases e2
              exact inplace _ hst (by omega) _ (.slL hρ hroom p2 p3)
            · rename_i hroom
              split at h
              · rename_i k old hk hold
                split at h
                · rename_i hw
                  simp only [Option.some.injEq, Prod.mk.injEq] at h; obtain ⟨rfl, rfl⟩ := h
                  obtain ⟨olds, q1, q2, q3, q4⟩ := firstCells_slice (P := P) hH vS hold ht
                  by_cases hin : len + n ≤ cc
                  · obtain ⟨cur, elc, hheap, hx⟩ := hH.own b B o0 x0 k hρ hk hw
                    have hmul : (len + n) * i.size ≤ cc * i.size := Nat.mul_le_mul_right _ hin
                    rw [Nat.add_mul] at hmul
                    have hnl := g1.1
                    have hr := g4.row B (o0 + off) len cc hin hheap (by omega)
                    rw [← ex] at hr
                    have hseg : seg k.cells off old.length = some old := by
                      rw [q3]; simp only [AH.loadN, hk, Option.bind_some] at hold; exact hold
                    have hn : ρ H.n = none := hfr _ (Nat.le_refl _) (Nat.lt_succ_self _)
                    have ht := hH.take hn hρ hk hw hheap hx hseg g1 g2 (by omega)
                    rw [q3] at ht
                    refine ⟨_, _, _, run _ _ hr, add_sub hn _, NewB.add _ _ _ (.inr fun q => by have := q b o0 x0 k hρ hk; rw [hw] at this; cases this), ht, ?_, Fr.setRow hH hρ hk hw _⟩
                    have := VR.slL (o := 0) (ρ := ρ.add H.n (B, o0 + off, x0 - off)) (Rho.add_same _ _ _) (Nat.le_refl (len + n)) hin (show 0 + cc * i.size ≤ x0 - off by omega)
                    exact this
                  · rw [ex] at q4
                    exact grow (some ⟨B, o0 + off, none⟩) len cc old olds ex q1 q2 q3 q4 (by omega) (by omega) (hfr _ (Nat.le_refl _) (Nat.lt_succ_self _)) (H.put b none) (hH.kill b) rfl
                · cases h
              · cases h
  | _ => simp only [aapp] at h; cases h
theorem sim_app {c a1 a2 t u s y sz el eu i z} (ho : o.op = .call c) (hc : c.callee = .builtin .append) (ha : c.args.toList = [a1, a2]) (hty : c.argTypes.toList = [t, u]) (h1 : fitX NG a1 s = true) (h2 : fitX NG a2 y = true)
    (ht : P.underlying t = some (.slice el)) (htu : P.underlying u = some (.slice eu)) (hi : P.info? el = some i) (hsz : i.size = sz) (hb : i.bytes ≤ 8192) (hz : i.zero = some z) (hzs : z.cells.size = i.size) : Sim P NG o (.app sz s y) := by
  subst hsz
  intro ρ e H a w v H' he hH hfr h
  have hargs : c.args = #[a1, a2] := by rw [← Array.toList_inj]; exact ha
  have htys : c.argTypes = #[t, u] := by rw [← Array.toList_inj]; exact hty
  have run : ∀ r w', (Builtin.append_ #[t, u] o.type #[a.eval a1, a.eval a2]).run P w = .ok r w' → Came P o a w r w' := by
    intro r w' hr
    left
    unfold execOp; rw [ho]
    simp [resolve, hc, hargs, htys, invoke, builtin, hr]
  simp only [aop] at h
  split at h
  · rename_i S X hS hX
    have vS := ev_VR hH.glob he h1 hS
    have vX := ev_VR hH.glob he h2 hX
    split at h
    · rename_i n new hn hnew
      obtain ⟨news, g1, g2, g3, g4⟩ := vX.src (P := P) hH hn hnew htu
      exact appG ht hi hb hz hzs hH hfr vS run g1 g2 g3 (AppSrc.of ht hi hz g4 (g1.1.symm.trans g3)) h
    · cases h
  · cases h
theorem AppSrc.zeros {t u ty el : TypeId} {i : TypeInfo} {z : Value} {n : Nat} {k : IntKind} {w : World} (ht : P.underlying t = some (.slice el)) (htu : P.underlying u = some (.int k)) (hi : P.info? el = some i) (hz : i.zero = some z) (hb : i.bytes ≤ 8192) (hn : 1 ≤ n ∧ n ≤ 1000) (hs : 1 ≤ i.size) (hzs : z.cells.size = i.size) (hone : ∀ u ∈ z.cells.toList, u.oneCell' = true) :
    AppSrc P t u ty el i z (.int .i64 (n : Int)) n (List.replicate n z.cells.toList).flatten w := by
  have wl : IntKind.i64.wrap (n : Int) = n := IntWalk.i64_in _ (by omega)
  have h0 : ¬ ((n : Int) < 0) := by omega
  have h48 : ¬ (281474976710656 < (n : Int) * (i.bytes : Int)) := by
    have k1 : (n : Int) * (i.bytes : Int) ≤ 1000 * 8192 := Int.mul_le_mul (by omega) (by omega) (by omega) (by omega)
    omega
  have hne : ¬ (n * i.size = 0) := by
    intro h
    rcases Nat.mul_eq_zero.1 h with h | h <;> omega
  have hne1 : ¬ n = 0 := by omega
  have hne2 : ¬ i.size = 0 := by omega
  have hzc : (Builtin.zeroCells z.cells n).toList = (List.replicate n z.cells.toList).flatten := by
    unfold Builtin.zeroCells; exact range_zero z.cells n
  have hlen : (List.replicate n z.cells.toList).flatten.length = n * i.size := by
    rw [← hzs]; simp [List.length_flatten]
  constructor
  · intro B off sLen sCap hroom cur e0 hheap hfit
    have hst := run_storeCells_at P B (off + sLen * i.size) e0 (List.replicate n z.cells.toList).flatten 0 cur w hheap (by simpa using hfit) (fun x hx => by
      obtain ⟨l, hl, hx⟩ := List.mem_flatten.1 hx
      rw [(List.mem_replicate.1 hl).2] at hx
      exact hone x hx)
    simp only [Nat.add_zero] at hst
    have hadd : (⟨B, off, none⟩ : Addr).add (sLen * i.size) = ⟨B, off + sLen * i.size, none⟩ := Addr.add_mid _ _ _
    simp [Builtin.append_, run_underlying ht, run_underlying htu, sizeOf, typeInfo, zeroValue, hi, hz, asInt, asIntOf, wl, h0, h48, hroom, hne1, hne2, hadd, hzc, hst]
    exact fun h => absurd h hne
  · intro h0'; omega
  · intro base sLen sCap olds hold hg h63 hfit
    have hn' : ¬ (sLen + n ≤ sCap) := by omega
    have h63' : ¬ (9223372036854775807 < ((sLen : Int) + (n : Int))) := by omega
    have h48' : ¬ (281474976710656 < Builtin.nextslicecap (sLen + n) sCap * i.bytes) := by omega
    simp [Builtin.append_, run_underlying ht, run_underlying htu, sizeOf, typeInfo, zeroValue, hi, hz, asInt, asIntOf, wl, h0, h48, hn', h63', h48', hne1, hne2, Question.forced, hold, newRow, grownCap]
    rw [if_neg hne]
    congr 3
    apply Array.ext'
    simp [List.append_assoc, hzc]
theorem sim_appz {c a1 m t u s sz zz el i z k} {n : Nat} (ho : o.op = .call c) (hc : c.callee = .builtin .append) (ha : c.args.toList = [a1, .const (.int .i64 m)]) (hty : c.argTypes.toList = [t, u]) (h1 : fitX NG a1 s = true)
    (hm : m = (n : Int)) (hn : 1 ≤ n ∧ n ≤ 1000) (ht : P.underlying t = some (.slice el)) (htu : P.underlying u = some (.int k)) (hi : P.info? el = some i) (hsz : i.size = sz) (hb : i.bytes ≤ 8192) (hz : i.zero = some z) (hok : okVs z.cells.toList zz = true) (hzl : zz.length = sz) (hs1 : 1 ≤ sz) : Sim P NG o (.appz sz zz s n) := by
  subst hsz
  subst hm
  intro ρ e H a w v H' he hH hfr h
  have hargs : c.args = #[a1, .const (.int .i64 (n : Int))] := by rw [← Array.toList_inj]; exact ha
  have htys : c.argTypes = #[t, u] := by rw [← Array.toList_inj]; exact hty
  have run : ∀ r w', (Builtin.append_ #[t, u] o.type #[a.eval a1, .int .i64 (n : Int)]).run P w = .ok r w' → Came P o a w r w' := by
    intro r w' hr
    left
    unfold execOp; rw [ho]
    have hev : a.eval (.const (.int .i64 (n : Int))) = .int .i64 (n : Int) := rfl
    simp [resolve, hc, hargs, htys, invoke, builtin, hev, hr]
  have hv := okVs_VRs (ρ := ρ) hok
  have hzs : z.cells.size = i.size := by rw [← hzl, hv.1.1]; simp
  simp only [aop] at h
  split at h
  · rename_i S hS
    have vS := ev_VR hH.glob he h1 hS
    refine appG ht hi hb hz hzs hH hfr vS run (hv.1.flatten_replicate n) (flat_flatten hv.2 n) (by rw [List.length_flatten]; simp [hzl]) (AppSrc.zeros ht htu hi hz hb hn hs1 hzs ?_) h
    exact hv.1.oneCell hv.2
  · cases h
end
end Go.Proofs.YtcibjklpaljadaaGreat.AM
namespace Go.Proofs.YtcibjklpaljadaaGreat.AM
set_option linter.unusedSimpArgs false
set_option linter.unusedVariables false
open Go Go.RowKit

theorem telem_inv {P : Program} {t e : TypeId} (h : telem P t = some e) : P.underlying t = some (.slice e) := by
  unfold telem at h
  split at h
  · rename_i E hE; rw [hE]; cases h; rfl
  · cases h

theorem sim_of_fit {P : Program} {NG : Nat} (o : Oper) (op : AOp) (hc : isCall op = false) (h : fitOp P NG o.op op = true) : Sim P NG o op := by
  obtain ⟨dst, mo, ty, pos, after, guard⟩ := o
  simp only at h
  cases mo with
  | move x => cases op <;> first | (simp [fitOp] at h; done) | exact sim_mv (.inl rfl) h
  | assign x => cases op <;> first | (simp [fitOp] at h; done) | exact sim_mv (.inr rfl) h
  | pick c a b =>
    cases op <;> first | (simp [fitOp] at h; done) | skip
    simp only [fitOp, Bool.and_eq_true] at h
    exact sim_pick rfl h.1.1 h.1.2 h.2
  | alloc t => cases op <;> first | (simp [fitOp] at h; done) | exact sim_alloc rfl h
  | box t x => cases op <;> first | (simp [fitOp] at h; done) | exact sim_box rfl h
  | load t x =>
    cases op <;> first | (simp [fitOp] at h; done) | skip
    · simp only [fitOp, Bool.and_eq_true, beq_iff_eq] at h
      exact sim_load rfl h.1 h.2
    · simp only [fitOp, Bool.and_eq_true, beq_iff_eq] at h
      exact sim_loadN rfl h.1.1 h.1.2 h.2
  | store t a v =>
    cases op <;> first | (simp [fitOp] at h; done) | skip
    simp only [fitOp, Bool.and_eq_true, beq_iff_eq] at h
    exact sim_store rfl h.1.1 h.1.2 h.2
  | nilCheck x => cases op <;> first | (simp [fitOp] at h; done) | exact sim_nilc rfl h
  | binOp bo t x y yt =>
    cases op <;> first | (simp [fitOp] at h; done) | skip
    · simp only [fitOp, Bool.and_eq_true, decide_eq_true_eq] at h
      obtain ⟨⟨rfl, h1⟩, h2⟩ := h
      exact sim_bin rfl h1 h2
    · simp only [fitOp, Bool.and_eq_true, decide_eq_true_eq] at h
      obtain ⟨⟨⟨h0, h1⟩, h2⟩, h3⟩ := h
      refine sim_eqB rfl h0 h1 h2 ?_
      split at h3
      · assumption
      · cases h3
    · simp only [fitOp, Bool.and_eq_true, decide_eq_true_eq] at h
      obtain ⟨⟨⟨h0, h1⟩, h2⟩, h3⟩ := h
      exact sim_eqN rfl h0 h1 h2 h3
    · simp only [fitOp, Bool.and_eq_true, decide_eq_true_eq] at h
      obtain ⟨⟨⟨h0, h1⟩, h2⟩, h3⟩ := h
      exact sim_eqA rfl h0 h1 h2 h3
  | unOp uo t x =>
    cases op <;> first | (simp [fitOp] at h; done) | skip
    simp only [fitOp, Bool.and_eq_true, decide_eq_true_eq] at h
    obtain ⟨rfl, h1⟩ := h
    exact sim_un rfl h1
  | convert s t x =>
    cases op <;> first | (simp [fitOp] at h; done) | skip
    simp only [fitOp, Bool.and_eq_true] at h
    obtain ⟨⟨h1, h2⟩, h3⟩ := h
    split at h3
    · rename_i k' hk
      simp only [decide_eq_true_eq] at h3; subst h3
      exact sim_conv rfl h1 h2 hk
    · cases h3
  | makeSlice t l c =>
    cases op <;> first | (simp [fitOp] at h; done) | skip
    simp only [fitOp, Bool.and_eq_true] at h
    obtain ⟨⟨h1, h2⟩, h3⟩ := h
    split at h3
    · rename_i el hel
      simp only [Bool.and_eq_true, beq_iff_eq, decide_eq_true_eq] at h3
      exact sim_mksl rfl h1 h2 hel h3.1.1.1 h3.1.1.2 h3.1.2 h3.2
    · cases h3
  | slice t x lo hi mx =>
    cases op <;> first | (simp [fitOp] at h; done) | skip
    simp only [fitOp, Bool.and_eq_true] at h
    obtain ⟨⟨⟨⟨h1, h2⟩, h3⟩, h4⟩, h5⟩ := h
    split at h5
    · rename_i el hel
      simp only [beq_iff_eq] at h5
      exact sim_slice rfl h1 h2 h3 h4 (telem_inv hel) h5
    · cases h5
  | fieldAddr t x f =>
    cases op <;> first | (simp [fitOp] at h; done) | skip
    simp only [fitOp, Bool.and_eq_true] at h
    obtain ⟨h1, h2⟩ := h
    split at h2
    · rename_i d hd
      simp only [Bool.and_eq_true, beq_iff_eq] at h2
      refine sim_fldA rfl h1 hd h2.1 ?_
      have := h2.2
      split at this
      · cases this
      · rename_i n hne hn
        cases n with
        | zero => exact absurd rfl hne
        | succ n => exact ⟨n, hn⟩
      · cases this
    · cases h2
  | field t x f =>
    cases op <;> first | (simp [fitOp] at h; done) | skip
    · simp only [fitOp, Bool.and_eq_true] at h
      obtain ⟨h1, h2⟩ := h
      split at h2
      · rename_i d hd
        simp only [Bool.and_eq_true, beq_iff_eq] at h2
        exact sim_fld rfl h1 hd h2.1 h2.2
      · cases h2
    · simp only [fitOp, Bool.and_eq_true] at h
      obtain ⟨h1, h2⟩ := h
      split at h2
      · rename_i d hd
        simp only [Bool.and_eq_true, beq_iff_eq] at h2
        exact sim_fldN rfl h1 hd h2.1.1 h2.1.2 h2.2
      · cases h2
  | indexAddr t x i =>
    cases op <;> first | (simp [fitOp] at h; done) | skip
    · simp only [fitOp, Bool.and_eq_true] at h
      obtain ⟨⟨h1, h2⟩, h3⟩ := h
      split at h3
      · rename_i el hel
        simp only [beq_iff_eq] at h3
        exact sim_idxA rfl h1 h2 (telem_inv hel) h3
      · cases h3
    · simp only [fitOp, Bool.and_eq_true] at h
      obtain ⟨⟨h1, h2⟩, h3⟩ := h
      split at h3
      · rename_i n el hel
        simp only [Bool.and_eq_true, beq_iff_eq] at h3
        obtain ⟨rfl, h4⟩ := h3
        exact sim_idxAA rfl h1 h2 hel h4
      · cases h3
  | index t x i =>
    cases op <;> first | (simp [fitOp] at h; done) | skip
    simp only [fitOp, Bool.and_eq_true] at h
    obtain ⟨⟨h1, h2⟩, h3⟩ := h
    refine sim_idx rfl h1 h2 ?_
    split at h3
    · assumption
    · cases h3
  | extract x i =>
    cases op <;> first | (simp [fitOp] at h; done) | skip
    simp only [fitOp, Bool.and_eq_true, beq_iff_eq] at h
    obtain ⟨h1, rfl⟩ := h
    exact sim_ext rfl h1
  | makeFunc fn first cap =>
    cases op <;> first | (simp [fitOp] at h; done) | skip
    simp only [fitOp, Bool.and_eq_true] at h
    obtain ⟨⟨h1, h2⟩, h3⟩ := h
    split at h1
    · simp only [beq_iff_eq] at h1; subst h1
      exact sim_mkfn rfl h2 h3
    · cases h1
  | build t ps =>
    cases op <;> first | (simp [fitOp] at h; done) | skip
    simp only [fitOp, Bool.and_eq_true] at h
    obtain ⟨h1, h2⟩ := h
    split at h2
    · rename_i fs hfs
      simp only [Bool.and_eq_true] at h2
      exact sim_build rfl h1 hfs h2.1 h2.2
    · cases h2
  | buildSlice t len ps =>
    cases op <;> first | (simp [fitOp] at h; done) | skip
    simp only [fitOp, Bool.and_eq_true, beq_iff_eq] at h
    obtain ⟨rfl, h2⟩ := h
    split at h2
    · rename_i el hel
      split at h2
      · rename_i i hi
        split at h2
        · rename_i v hv
          simp only [Bool.and_eq_true, decide_eq_true_eq] at h2
          exact sim_bsl rfl (telem_inv hel) hi hv h2.1.1 h2.1.2 h2.2
        · cases h2
      · cases h2
    · cases h2
  | call c =>
    cases op <;> first | (simp [fitOp] at h; done) | (simp [isCall] at hc; done) | skip
    · simp only [fitOp] at h
      split at h
      · rename_i x t ts h1 h2 h3
        simp only [Bool.and_eq_true] at h
        obtain ⟨el, hel⟩ := Option.isSome_iff_exists.mp h.2
        exact sim_len rfl h1 h2 h3 h.1 (telem_inv hel)
      · cases h
    · simp only [fitOp] at h
      split at h
      · rename_i a b t u h1 h2 h3
        simp only [Bool.and_eq_true] at h
        obtain ⟨⟨h4, h5⟩, h6⟩ := h
        split at h6
        · rename_i e e' he he'
          simp only [Bool.and_eq_true, beq_iff_eq] at h6
          obtain ⟨⟨h7, h8⟩, h9⟩ := h6
          split at h9
          · rename_i i hi
            split at h9
            · rename_i z hz
              simp only [beq_iff_eq] at h9
              have hb : i.bytes ≤ 8192 := by simpa [tbytes, hi] using h8
              exact sim_app rfl h1 h2 h3 h4 h5 (telem_inv he) (telem_inv he') hi (by simpa [tsize, hi] using h7) hb hz h9
            · cases h9
          · cases h9
        · cases h6
      · cases h
    · simp only [fitOp] at h
      split at h
      · rename_i a b t u h1 h2 h3
        simp only [Bool.and_eq_true, decide_eq_true_eq] at h
        obtain ⟨⟨⟨⟨h4, h5⟩, h6⟩, h7⟩, h8⟩ := h
        split at h5
        · rename_i m
          simp only [beq_iff_eq] at h5
          subst h5
          split at h7
          · rename_i k hk
            split at h8
            · rename_i e he
              simp only [Bool.and_eq_true, beq_iff_eq, decide_eq_true_eq] at h8
              obtain ⟨⟨⟨⟨g1, g2⟩, g3⟩, g4⟩, g5⟩ := h8
              obtain ⟨i, zv, hi, hz, hok⟩ := tzero_inv g3
              exact sim_appz rfl h1 h2 h3 h4 rfl h6 (telem_inv he) hk hi (by simpa [tsize, hi] using g1) (by simpa [tbytes, hi] using g2) hz hok g4 g5
            · cases h8
          · cases h7
        · cases h5
      · cases h
    · simp only [fitOp] at h
      split at h
      · rename_i a b h1 h2
        simp only [Bool.and_eq_true] at h
        exact sim_mx rfl h1 h2 h.1 h.2
      · cases h
    · simp only [fitOp] at h
      split at h
      · rename_i a b h1 h2
        simp only [Bool.and_eq_true] at h
        exact sim_mn rfl h1 h2 h.1 h.2
      · cases h
  | _ => cases op <;> (simp [fitOp] at h; done)

def Wf (H : AH) : Prop := ∀ b, H.n ≤ b → H.bk b = none
structure Mon (H H' : AH) : Prop where
  n : H.n ≤ H'.n
  old : ∀ b, b < H.n → ∀ k', H'.bk b = some k' → ∃ k, H.bk b = some k ∧ (k'.wr = true → k.wr = true)
  wf : Wf H → Wf H'

theorem Mon.refl (H : AH) : Mon H H := ⟨Nat.le_refl _, fun _ _ k' h => ⟨k', h, id⟩, id⟩
theorem Mon.trans {a b c : AH} (h : Mon a b) (k : Mon b c) : Mon a c := by
  refine ⟨Nat.le_trans h.1 k.1, fun x hx k' hk' => ?_, fun q => k.wf (h.wf q)⟩
  obtain ⟨k1, h1, w1⟩ := k.2 x (Nat.lt_of_lt_of_le hx h.1) k' hk'
  obtain ⟨k2, h2, w2⟩ := h.2 x hx k1 h1
  exact ⟨k2, h2, fun e => w2 (w1 e)⟩
theorem Mon.push (H : AH) (cs) : Mon H (H.push cs) := ⟨Nat.le_succ _, fun b hb k' hk => ⟨k', by rw [← hk]; simp [AH.push]; omega, id⟩, fun q b hb => by
  have hb' : H.n + 1 ≤ b := hb
  simp only [AH.push]; rw [if_neg (by omega)]; exact q b (by omega)⟩
theorem Mon.kill (H : AH) (b) : Mon H (H.put b none) := by
  refine ⟨Nat.le_refl _, fun b' _ k' hk => ?_, fun q b' hb' => by simp only [AH.put]; split <;> first | rfl | exact q b' hb'⟩
  by_cases e : b' = b
  · subst e; simp [AH.put] at hk
  · exact ⟨k', by simpa [AH.put, e] using hk, id⟩
theorem Mon.store {H H' : AH} {b o vs} (h : H.store b o vs = some H') : Mon H H' := by
  unfold AH.store at h
  split at h
  · rename_i k hk
    split at h
    · rename_i hc
      simp only [Option.some.injEq] at h; subst h
      refine ⟨Nat.le_refl _, fun b' _ k' hk' => ?_, fun q b' hb' => ?_⟩
      · by_cases e : b' = b
        · subst e; exact ⟨k, hk, fun _ => hc.1⟩
        · exact ⟨k', by simpa [AH.put, e] using hk', id⟩
      · have hb2 : H.n ≤ b' := hb'
        have : b' ≠ b := fun e => by subst e; rw [q b' hb2] at hk; cases hk
        simp only [AH.put, if_neg this]; exact q b' hb2
    · cases h
  · cases h
theorem Mon.aapp {H H' : AH} {sz s n new v} (h : aapp H sz s n new = some (v, H')) : Mon H H' := by
  unfold AM.aapp at h
  split at h
  · split at h
    · cases h; exact Mon.refl _
    · split at h
      · cases h; exact Mon.push _ _
      · cases h
  · split at h
    · cases h; exact Mon.refl _
    · cases h
  · split at h
    · cases h; exact Mon.refl _
    · split at h
      · cases h
      · split at h
        · cases h
        · split at h
          · obtain ⟨H1, h1, e⟩ := map_some h; cases e; exact Mon.store h1
          · split at h
            · cases h; exact Mon.push _ _
            · cases h
        · split at h
          · cases h
          · split at h
            · obtain ⟨H1, h1, e⟩ := map_some h; cases e; exact Mon.store h1
            · split at h
              · split at h
                · cases h; exact (Mon.kill _ _).trans (Mon.push _ _)
                · cases h
              · cases h
  · cases h

theorem Mon.aop {e : Env} {H H' : AH} {op v} (h : aop e H op = some (v, H')) : Mon H H' := by
  cases op <;> simp only [AM.aop] at h
  case mv => obtain ⟨_, _, e⟩ := map_some h; cases e; exact Mon.refl _
  case pick => split at h <;> first | (obtain ⟨_, _, e⟩ := map_some h; cases e; exact Mon.refl _) | cases h
  case alloc => cases h; exact Mon.push _ _
  case box =>
    split at h
    · split at h
      · cases h
      · cases h; exact Mon.push _ _
    · cases h
  case load => split at h <;> first | (obtain ⟨_, _, e⟩ := map_some h; cases e; exact Mon.refl _) | cases h
  case loadN => split at h <;> first | (obtain ⟨_, _, e⟩ := map_some h; cases e; exact Mon.refl _) | cases h
  case store =>
    split at h
    · split at h
      · obtain ⟨_, h1, e⟩ := map_some h; cases e; exact Mon.store h1
      · cases h
    · cases h
  case nilc => split at h <;> cases h <;> exact Mon.refl _
  case bin => split at h <;> first | (obtain ⟨_, _, e⟩ := map_some h; cases e; exact Mon.refl _) | cases h
  case eqB => split at h <;> cases h <;> exact Mon.refl _
  case eqN =>
    split at h
    · split at h <;> cases h <;> exact Mon.refl _
    · cases h
  case eqA =>
    split at h
    · split at h
      · obtain ⟨_, _, e⟩ := map_some h; cases e; exact Mon.refl _
      · cases h
    · cases h
  case un => split at h <;> first | (obtain ⟨_, _, e⟩ := map_some h; cases e; exact Mon.refl _) | cases h
  case conv => split at h <;> cases h <;> exact Mon.refl _
  case mksl =>
    split at h
    · split at h
      · cases h; exact Mon.push _ _
      · cases h
    · cases h
  case slice => split at h <;> first | (obtain ⟨_, _, e⟩ := map_some h; cases e; exact Mon.refl _) | cases h
  case fldA => split at h <;> cases h <;> exact Mon.refl _
  case fld => split at h <;> first | (obtain ⟨_, _, e⟩ := map_some h; cases e; exact Mon.refl _) | cases h
  case fldN => split at h <;> first | (obtain ⟨_, _, e⟩ := map_some h; cases e; exact Mon.refl _) | cases h
  case idxA =>
    split at h
    · split at h <;> cases h <;> exact Mon.refl _
    · cases h
  case idxAA =>
    split at h
    · split at h <;> cases h <;> exact Mon.refl _
    · cases h
  case idx =>
    split at h
    · split at h <;> cases h <;> exact Mon.refl _
    · cases h
  case ext => split at h <;> first | (obtain ⟨_, _, e⟩ := map_some h; cases e; exact Mon.refl _) | cases h
  case mkfn => split at h <;> cases h <;> exact Mon.refl _
  case build => split at h <;> first | (obtain ⟨_, _, e⟩ := map_some h; cases e; exact Mon.refl _) | cases h
  case bsl => split at h <;> first | (obtain ⟨_, _, e⟩ := map_some h; cases e; exact Mon.push _ _) | cases h
  case len => split at h <;> first | (obtain ⟨_, _, e⟩ := map_some h; cases e; exact Mon.refl _) | cases h
  case app =>
    split at h
    · split at h
      · exact Mon.aapp h
      · cases h
    · cases h
  case appz =>
    split at h
    · exact Mon.aapp h
    · cases h
  case mx => split at h <;> cases h <;> exact Mon.refl _
  case mn => split at h <;> cases h <;> exact Mon.refl _
  all_goals cases h

theorem Mon.skip {H : AH} : Mon H H.skip := (Mon.push H []).trans (Mon.kill _ _)
theorem E_mon {C : FuncId → Option AFn} {c r} (h : E C c r) : match c, r with
    | .code _ _ H, .out _ _ H' => Mon H H'
    | .ops _ _ H, .ops _ H' => Mon H H'
    | .call _ _ H, .val _ H' => Mon H H'
    | _, _ => True := by
  induction h with
  | skip => exact Mon.refl _
  | keep => exact Mon.refl _
  | @alt c f a b e H r _ _ _ _ ih _ => cases r <;> first | trivial | exact Mon.trans Mon.skip ih
  | kill _ => exact Mon.kill _ _
  | ops _ ih => exact ih
  | @seqN a b e H e' H' r h1 _ i1 i2 => cases r <;> first | trivial | exact Mon.trans i1 i2
  | seqX _ _ ih => exact ih
  | @cond x a b e H t r _ _ ih => cases r <;> first | trivial | exact ih
  | blockX _ _ ih => exact ih
  | blockB _ ih => exact ih
  | @loopN a e H e' H' r _ _ i1 i2 => cases r <;> first | trivial | exact Mon.trans i1 i2
  | loopX _ _ ih => exact ih
  | exit => exact Mon.refl _
  | ret => exact Mon.refl _
  | nil => exact Mon.refl _
  | @pass o l e H r _ _ ih => cases r <;> first | trivial | exact ih
  | @op o l e H v H' r _ _ ho _ _ _ ih => cases r <;> first | trivial | exact Mon.trans (Mon.aop ho) ih
  | @call o l e H f args v H' r _ _ _ _ _ _ i1 i2 => cases r <;> first | trivial | exact Mon.trans i1 i2
  | enter _ _ _ _ _ ih => exact ih

structure Adv (ρ : Rho) (H : AH) (w : World) (ρ' : Rho) (H' : AH) (w' : World) : Prop where
  sub : Sub ρ ρ'
  new : NewB ρ H w ρ' H'.n
  mon : Mon H H'
  fr : Fr ρ H w w'

theorem Adv.refl (ρ H w) : Adv ρ H w ρ H w := ⟨Sub.refl _, NewB.refl _ _ _ _, Mon.refl _, Fr.refl _ _ _⟩

theorem Adv.quiet {NG ρ H w ρ' H' w'} (hH : RelH NG ρ H w) (hfr : Fresh ρ H.n H'.n) (h : Adv ρ H w ρ' H' w') {B : Nat} (hB : B < w.heap.size) (q : Quiet ρ H B) : Quiet ρ' H' B := by
  intro b o x k hb hk
  rcases h.new b B o x hb with h1 | ⟨_, _, h2 | h2⟩
  · have hlt : b < H.n := by
      rcases Nat.lt_or_ge b H.n with q | q
      · exact q
      · rcases Nat.lt_or_ge b H'.n with q' | q'
        · rw [hfr b q q'] at h1; cases h1
        · rw [h.mon.wf hH.wf b q'] at hk; cases hk
    obtain ⟨k0, hk0, hw⟩ := h.mon.old b hlt k hk
    have := q b o x k0 h1 hk0
    cases hkw : k.wr with
    | false => rfl
    | true => rw [hw hkw] at this; cases this
  · omega
  · exact absurd q h2

theorem Adv.fresh {ρ H w ρ1 H1 w1} (h : Adv ρ H w ρ1 H1 w1) {n : Nat} (hfr : Fresh ρ H.n n) (_ : H1.n ≤ n) : Fresh ρ1 H1.n n := by
  intro b hb1 hb2
  cases hq : ρ1 b with
  | none => rfl
  | some r =>
    obtain ⟨B, o, x⟩ := r
    rcases h.new b B o x hq with h1 | ⟨_, h2, _⟩
    · rw [hfr b (Nat.le_trans h.mon.n hb1) hb2] at h1; cases h1
    · omega
theorem Fresh.sub {ρ : Rho} {n n1 n2 : Nat} (h : Fresh ρ n n2) (k : n1 ≤ n2) : Fresh ρ n n1 := fun b h1 h2 => h b h1 (Nat.lt_of_lt_of_le h2 k)

theorem Adv.trans {NG ρ H w ρ1 H1 w1 ρ2 H2 w2} (hH : RelH NG ρ H w) (hfr : Fresh ρ H.n H1.n) (h : Adv ρ H w ρ1 H1 w1) (k : Adv ρ1 H1 w1 ρ2 H2 w2) : Adv ρ H w ρ2 H2 w2 := by
  refine ⟨h.sub.trans k.sub, ?_, h.mon.trans k.mon, ?_⟩
  · intro b B o x hb
    rcases k.new b B o x hb with h1 | ⟨hn, hn2, h2⟩
    · rcases h.new b B o x h1 with h3 | ⟨h3, h4, h5⟩
      · exact .inl h3
      · exact .inr ⟨h3, Nat.lt_of_lt_of_le h4 k.mon.n, h5⟩
    · refine .inr ⟨Nat.le_trans h.mon.n hn, hn2, ?_⟩
      rcases Nat.lt_or_ge B w.heap.size with hB | hB
      · right
        intro q
        have hq := h.quiet hH hfr hB q
        rcases h2 with h2 | h2
        · have := h.fr.size; omega
        · exact h2 hq
      · exact .inl hB
  · refine ⟨k.fr.os.trans h.fr.os, k.fr.tape.trans h.fr.tape, k.fr.output.trans h.fr.output, Nat.le_trans h.fr.size k.fr.size, fun B hB q => ?_⟩
    rw [k.fr.heap B (Nat.lt_of_lt_of_le hB h.fr.size) (h.quiet hH hfr hB q), h.fr.heap B hB q]

theorem Sim.adv {P NG o op} (h : Sim P NG o op) {ρ e H a w v H'} (he : RelE ρ e a.tmps) (hH : RelH NG ρ H w) (hfr : Fresh ρ H.n H'.n) (ho : aop e H op = some (v, H')) :
    ∃ ρ' cv w', Came P o a w cv w' ∧ Adv ρ H w ρ' H' w' ∧ RelH NG ρ' H' w' ∧ VR ρ' v cv := by
  obtain ⟨ρ', cv, w', hc, hs, hn, hH', hv, hf⟩ := h ρ e H a w v H' he hH hfr ho
  exact ⟨ρ', cv, w', hc, ⟨hs, hn, Mon.aop ho, hf⟩, hH', hv⟩

end Go.Proofs.YtcibjklpaljadaaGreat.AM
namespace Go.Proofs.YtcibjklpaljadaaGreat.AM
set_option linter.unusedSimpArgs false
set_option linter.unusedVariables false
open Go Go.RowKit

def fitG (ops : Array Oper) : Option (Nat × Bool) → Option (Nat × Bool) → Bool
  | none, none => true
  | some (j, b), some (t, b') => (ops[j]?).bind (·.dst) == some t && b == b'
  | _, _ => false
def fitD (N : Nat) : Option Tmp → Option Nat → Bool
  | none, none => true
  | some d, some d' => d == d' && decide (d < N)
  | _, _ => false
def fitL (P : Program) (NG N : Nat) (ops : Array Oper) : List Oper → List AO → Bool
  | [], [] => true
  | o :: os, a :: as => fitD N o.dst a.d && fitG ops o.guard a.c && fitOp P NG o.op a.op && fitL P NG N ops os as
  | _, _ => false

def dirs (o : Oper) : List Nat := o.after.toList.filterMap fun e => if Region.binds .any e then some e.on else none
def maskOf (acc : List Nat) : List Nat → Nat
  | [] => 0
  | k :: ks => (2 ^ k ||| acc.getD k 0) ||| maskOf acc ks
def masks : List Oper → List Nat → List Nat
  | [], acc => acc
  | o :: os, acc => masks os (acc ++ [maskOf acc (dirs o)])

def xsOf : AOp → List AX
  | .mv x | .box x | .load x | .loadN _ x | .nilc x | .un _ x | .conv _ x | .fldA _ x | .fld _ x | .fldN _ _ x | .ext x _ | .len x => [x]
  | .pick c a b => [c, a, b]
  | .alloc _ => []
  | .store _ a v => [a, v]
  | .bin _ x y | .eqB _ x y | .eqN _ _ x y | .eqA _ _ x y | .idxA _ x y | .idxAA _ _ x y | .idx x y | .mx x y | .mn x y | .app _ x y => [x, y]
  | .appz _ _ s _ => [s]
  | .mksl _ l c => [l, c]
  | .slice _ x lo hi mx => [x] ++ lo.toList ++ hi.toList ++ mx.toList
  | .mkfn _ a b => a ++ b
  | .build _ ps | .bsl _ _ ps => ps.map (·.2.2)
  | .call _ as => as
  | .callv f as => f :: as
def tmpsOf (o : AO) : List Nat := (xsOf o.op).filterMap (fun | .t n => some n | _ => none) ++ (match o.c with | some (t, _) => [t] | none => [])

inductive Cls where
  | p
  | a
  | l (x : AX)
  | q
  | t
def clsOf (o : AO) : Cls :=
  match o.op with
  | .alloc _ | .box _ | .mksl .. | .bsl .. => .a
  | .load x | .loadN _ x => .l x
  | .store .. => .t
  | .app .. | .appz .. | .call .. | .callv .. => if o.q then .q else .t
  | _ => .p

def axEq : AX → AX → Bool
  | .t n, .t m => n == m
  | .g n, .g m => n == m
  | _, _ => false
def free (mid : List AO) (i j : AO) : Bool :=
  (match i.d with | some t => !(tmpsOf j).contains t | none => true) &&
  (match j.d with | some t => !(tmpsOf i).contains t | none => true) &&
  (match clsOf i, clsOf j with
   | .t, .t | .t, .q | .q, .t => false
   | .t, .l x => i.gd.any (axEq x) && (match x with | .t n => mid.all (fun o => o.d != some n) && i.d != some n | _ => true)
   | .a, .t => (match i.d with | some n => j.gd.any (axEq (.t n)) | none => false)
   | .l x, .t => j.gd.any (axEq x) && (match x with | .t n => mid.all (fun o => o.d != some n) && i.d != some n | _ => true)
   | _, _ => true)
def pairsOk (ms : List Nat) (l : List AO) : Bool :=
  (List.range l.length).all fun j => (List.range j).all fun i =>
    match l[i]?, l[j]? with
    | some a, some b => ((ms.getD j 0).testBit i || free ((l.drop (i + 1)).take (j - i - 1)) a b) && (a.d.isNone || a.d != b.d)
    | _, _ => false
def dirsOk (os : List Oper) : Bool := (List.range os.length).all fun j => match os[j]? with | some o => (dirs o).all (fun k => decide (k < j)) | none => false
def drawOk (ops : Array Oper) (l : List AO) : Bool := dirsOk ops.toList && pairsOk (masks ops.toList []) l

def flagAO (c f : Nat) : List AO := [⟨some c, none, [], false, .alloc [.b false]⟩, ⟨none, none, [], false, .store 1 (.t c) (.c (.b true))⟩, ⟨none, none, [], false, .store 1 (.t c) (.c (.b false))⟩, ⟨some f, none, [], false, .load (.t c)⟩]
def flagOk (P : Program) (NG N : Nat) (ops : Array Oper) (y : Operand) (c f : Nat) : Bool :=
  match ops.toList, y with
  | [o0, o1, o2, o3], .tmp f' =>
    f' == f && c != f && fitL P NG N ops ops.toList (flagAO c f) &&
        ((dirs o1).contains 0 && (dirs o2).contains 0 && (dirs o3).contains 1 && (dirs o3).contains 2 && dirsOk ops.toList && !(dirs o2).contains 1)
  | _, _ => false

def fitC (P : Program) (NG N : Nat) : AC → Code → Bool
  | .skip, c => match c with | .skip => true | _ => false
  | .ret, c => match c with | .ret => true | _ => false
  | .exit i, c => match c with | .exit j => i == j | _ => false
  | .keep _, _ => false
  | .kill _, _ => false
  | .alt i j a b, c => match c with | .seq (.region _ ops true) (.cond y s u) => flagOk P NG N ops y i j && fitC P NG N a s && fitC P NG N b u | _ => false
  | .ops l, c => match c with | .region _ ops draw => fitL P NG N ops ops.toList l && (!draw || drawOk ops l) | _ => false
  | .cond x a b, c => match c with | .cond y s t => fitX NG y x && fitC P NG N a s && fitC P NG N b t | _ => false
  | .block i a, c => match c with | .block j s => i == j && fitC P NG N a s | _ => false
  | .loop a, c => match c with | .loop s => fitC P NG N a s | _ => false
  | .seq a b, c => match a, b with
    | .keep _, b => fitC P NG N b c
    | a, .keep _ => fitC P NG N a c
    | a, .kill _ => fitC P NG N a c
    | a, b => match c with | .seq s t => fitC P NG N a s && fitC P NG N b t | _ => false

def fitR (P : Program) : List ResultVar → List ARes → Bool
  | [], [] => true
  | .tmp t :: rs, .t n :: qs => t == n && fitR P rs qs
  | .cell t ty :: rs, .c n sz :: qs => t == n && tagg P ty == some true && tsize P ty == some sz && fitR P rs qs
  | .cell t ty :: rs, .c1 n :: qs => t == n && tagg P ty == some false && fitR P rs qs
  | _, _ => false
def fitF (P : Program) (NG : Nat) (f : Func) (a : AFn) : Bool :=
  f.name != "runtime.NumGoroutine" && decide (a.np ≤ f.ntmps) && fitR P f.results.toList a.res && (match f.body with | some c => fitC P NG f.ntmps a.body c | none => false)

def Fits (P : Program) (NG : Nat) (C : FuncId → Option AFn) : Prop := ∀ f a, C f = some a → ∃ F, P.funcs[f]? = some F ∧ fitF P NG F a = true

section
variable {P : Program} {NG : Nat} {C : FuncId → Option AFn}

def CallSim (P : Program) (NG : Nat) (f : FuncId) (args : List AV) (H : AH) (v : AV) (H' : AH) : Prop :=
  ∀ (ρ : Rho) (cargs : Array Value) (w : World), VRs ρ args cargs.toList → RelH NG ρ H w → Fresh ρ H.n H'.n → Calls P f cargs w fun e w' => ∃ ρ' cv, e = .returned cv ∧ Adv ρ H w ρ' H' w' ∧ RelH NG ρ' H' w' ∧ VR ρ' v cv

def StepSim (P : Program) (NG : Nat) (o : AO) (e : Env) (H : AH) (v : AV) (H' : AH) : Prop :=
  ∀ (op : Oper), fitOp P NG op.op o.op = true → ∀ (e' : Env) (ρ : Rho) (a : Act) (w : World), (∀ x ∈ xsOf o.op, ev e' x = ev e x) → RelE ρ e' a.tmps → RelH NG ρ H w → Fresh ρ H.n H'.n → ∀ (K : Act → World → Prop) (Q : Exit → Act → World → Prop),
    (∀ ρ' cv w', Adv ρ H w ρ' H' w' → RelH NG ρ' H' w' → VR ρ' v cv → K (a.put op.dst cv) w') → op.wp P a w K Q

theorem Sim.wp {op : Oper} {aop_ : AOp} (h : Sim P NG op aop_) {ρ e H a w v H'} (he : RelE ρ e a.tmps) (hH : RelH NG ρ H w) (hfr : Fresh ρ H.n H'.n) (ho : aop e H aop_ = some (v, H')) {K Q}
    (k : ∀ ρ' cv w', Adv ρ H w ρ' H' w' → RelH NG ρ' H' w' → VR ρ' v cv → K (a.put op.dst cv) w') : op.wp P a w K Q := by
  obtain ⟨ρ', cv, w', hc, ha, hH', hv⟩ := h.adv he hH hfr ho
  have := k ρ' cv w' ha hH' hv
  unfold Oper.wp
  rcases hc with hc | ⟨hc, rfl⟩
  · rw [hc]; exact this
  · rw [hc]; exact this

theorem evs_congr {e e' : Env} : ∀ {xs : List AX}, (∀ x ∈ xs, ev e' x = ev e x) → evs e' xs = evs e xs
  | [], _ => rfl
  | x :: xs, h => by
    simp only [evs]
    rw [h x (by simp), evs_congr (xs := xs) (fun y hy => h y (by simp [hy]))]
theorem evParts_congr {e e' : Env} : ∀ {ps : List (Nat × Nat × AX)}, (∀ x ∈ ps.map (·.2.2), ev e' x = ev e x) → evParts e' ps = evParts e ps
  | [], _ => rfl
  | (o, s, x) :: ps, h => by
    simp only [evParts]
    rw [h x (by simp), evParts_congr (ps := ps) (fun y hy => h y (by simp at hy ⊢; exact .inr hy))]
theorem evo_congr {e e' : Env} {x : Option AX} (h : ∀ y ∈ x.toList, ev e' y = ev e y) : evo e' x = evo e x := by
  cases x with
  | none => rfl
  | some x => simp only [evo]; rw [h x (by simp)]

theorem aop_congr {e e' : Env} {op : AOp} (h : ∀ x ∈ xsOf op, ev e' x = ev e x) (H : AH) : aop e' H op = aop e H op := by
  cases op <;> simp only [xsOf] at h <;> simp only [aop]
  case mv x => rw [h x (by simp)]
  case pick c a b => rw [h c (by simp), h a (by simp), h b (by simp)]
  case box x => rw [h x (by simp)]
  case load x => rw [h x (by simp)]
  case loadN n x => rw [h x (by simp)]
  case store n a v => rw [h a (by simp), h v (by simp)]
  case nilc x => rw [h x (by simp)]
  case bin op x y => rw [h x (by simp), h y (by simp)]
  case eqB ne x y => rw [h x (by simp), h y (by simp)]
  case eqN kd ne x y => rw [h x (by simp), h y (by simp)]
  case eqA n ne x y => rw [h x (by simp), h y (by simp)]
  case un op x => rw [h x (by simp)]
  case conv k x => rw [h x (by simp)]
  case mksl z l c => rw [h l (by simp), h c (by simp)]
  case slice sz x lo hi mx =>
    rw [h x (by simp), evo_congr (x := lo) (fun y hy => h y (by simp at hy ⊢; simp [hy])), evo_congr (x := hi) (fun y hy => h y (by simp at hy ⊢; simp [hy])), evo_congr (x := mx) (fun y hy => h y (by simp at hy ⊢; simp [hy]))]
  case fldA off x => rw [h x (by simp)]
  case fld off x => rw [h x (by simp)]
  case fldN off n x => rw [h x (by simp)]
  case idxA sz x i => rw [h x (by simp), h i (by simp)]
  case idxAA sz len x i => rw [h x (by simp), h i (by simp)]
  case idx x i => rw [h x (by simp), h i (by simp)]
  case ext x i => rw [h x (by simp)]
  case mkfn f a b => rw [evs_congr (xs := a) (fun y hy => h y (by simp [hy])), evs_congr (xs := b) (fun y hy => h y (by simp [hy]))]
  case build z ps => rw [evParts_congr (ps := ps) (fun y hy => h y hy)]
  case bsl z len ps => rw [evParts_congr (ps := ps) (fun y hy => h y hy)]
  case len x => rw [h x (by simp)]
  case app sz s x => rw [h s (by simp), h x (by simp)]
  case appz sz z s n => rw [h s (by simp)]
  case mx x y => rw [h x (by simp), h y (by simp)]
  case mn x y => rw [h x (by simp), h y (by simp)]

theorem target_congr {e e' : Env} {op : AOp} (h : ∀ x ∈ xsOf op, ev e' x = ev e x) : target e' op = target e op := by
  cases op <;> simp only [xsOf] at h <;> simp only [target]
  case call f as => rw [evs_congr h]
  case callv f as => rw [h f (by simp), evs_congr (xs := as) (fun y hy => h y (by simp [hy]))]

theorem stepSim_op {o : AO} {e H v H'} (hc : isCall o.op = false) (ho : aop e H o.op = some (v, H')) : StepSim P NG o e H v H' := by
  intro op hf e' ρ a w hx he hH hfr K Q k
  exact (sim_of_fit op o.op hc hf).wp he hH hfr (by rw [aop_congr hx]; exact ho) k

theorem stepSim_call (hC : Fits P NG C) {o : AO} {e H f args v H'} (ht : target e o.op = some (f, args)) (hfn : ∃ fn, C f = some fn) (hcall : CallSim P NG f args H v H') : StepSim P NG o e H v H' := by
  intro op hf e' ρ a w hx he hH hfr K Q k
  rw [← target_congr hx] at ht
  obtain ⟨dst, mo, ty, pos, after, guard⟩ := op
  obtain ⟨fn, hfn⟩ := hfn
  obtain ⟨F, hF, hfit⟩ := hC f fn hfn
  simp only [fitF, Bool.and_eq_true, bne_iff_ne] at hfit
  obtain ⟨⟨⟨hname, _⟩, _⟩, hbody⟩ := hfit
  have hb : F.body.isNone = false := by
    cases hq : F.body with
    | none => rw [hq] at hbody; cases hbody
    | some c => rfl
  have fin : ∀ cargs : Array Value, VRs ρ args cargs.toList → (execOp a.eval ⟨dst, mo, ty, pos, after, guard⟩).run P w = .ok (.enter f cargs) w → Oper.wp P ⟨dst, mo, ty, pos, after, guard⟩ a w K Q := by
    intro cargs hv hr
    unfold Oper.wp
    rw [hr, Oper.upon_enter]
    refine (hcall ρ cargs w hv hH hfr).mono ?_
    rintro _ w' ⟨ρ', cv, rfl, ha, hH', hv'⟩
    exact k ρ' cv w' ha hH' hv'
  have hcf : ∀ (cargs : Array Value), (callFunc f cargs).run P w = .ok (.enter f cargs) w := by
    intro cargs
    simp [callFunc, hF, hname]
    intro hn; rw [hn] at hb; cases hb
  cases hop : o.op <;> rw [hop] at ht hf <;> simp only [target] at ht <;> first | (cases ht; done) | skip
  · rename_i f' ys
    obtain ⟨us, hu, e2⟩ := map_some ht; cases e2
    cases mo <;> simp only [fitOp] at hf <;> first | (cases hf; done) | skip
    rename_i c
    simp only [Bool.and_eq_true] at hf
    obtain ⟨h1, h2⟩ := hf
    split at h1
    · rename_i g hg
      simp only [beq_iff_eq] at h1; subst h1
      refine fin (c.args.map a.eval) (by rw [Array.toList_map]; exact evs_VRs hH.glob he h2 hu) ?_
      unfold execOp
      simp [resolve, hg, Act.eval, Deferred.ofValue, invoke, hcf]
    · cases h1
  · rename_i y ys
    split at ht
    · rename_i g fa fc us hy hu
      simp only [Option.some.injEq, Prod.mk.injEq] at ht; obtain ⟨rfl, rfl⟩ := ht
      cases mo <;> simp only [fitOp] at hf <;> first | (cases hf; done) | skip
      rename_i c
      simp only [Bool.and_eq_true] at hf
      obtain ⟨h1, h2⟩ := hf
      split at h1
      · rename_i x hx'
        have hv := ev_VR hH.glob he h1 hy
        obtain ⟨a', c', ex, k1, k2⟩ : ∃ a' c', a.eval x = .func (.func g) a' c' ∧ VRs ρ fa a'.toList ∧ VRs ρ fc c'.toList := by
          generalize a.eval x = X at hv
          cases hv with
          | fn q1 q2 q3 q4 => exact ⟨_, _, rfl, ⟨by simpa using q1, q2⟩, ⟨by simpa using q3, q4⟩⟩
        refine fin ((a' ++ c.args.map a.eval) ++ c') ?_ ?_
        · simp only [Array.toList_append, Array.toList_map]
          exact (k1.append (evs_VRs hH.glob he h2 hu)).append k2
        · unfold execOp
          simp [resolve, hx', ex, Deferred.ofValue, invoke, hcf]
      · cases h1
    · cases ht

inductive Tr (P : Program) (NG : Nat) : List AO → Env → AH → Env → AH → Prop
  | nil {e H} : Tr P NG [] e H e H
  | pass {o l e H e' H'} : want e o.c = some false → Tr P NG l (upd e o.d (.tup [])) H e' H' → Tr P NG (o :: l) e H e' H'
  | step {o l e H v H1 e' H'} : want e o.c = some true → StepSim P NG o e H v H1 → Mon H H1 → Guards e H H1 o.gd → (o.q = true → Ext H H1) → (isCall o.op = false → aop e H o.op = some (v, H1)) →
      Tr P NG l (upd e o.d v) H1 e' H' → Tr P NG (o :: l) e H e' H'

theorem wanted_of {ops : Array Oper} {ρ : Rho} {e : Env} {a : Act} (he : RelE ρ e a.tmps) {op : Oper} {o : AO} {b : Bool} (hg : fitG ops op.guard o.c = true) (hw : want e o.c = some b) : Region.wanted op (yielded ops a.tmps) = b := by
  unfold fitG at hg
  split at hg
  · rename_i h1 h2
    rw [h2] at hw; simp only [want, Option.some.injEq] at hw; subst hw
    simp [Region.wanted, h1]
  · rename_i j b1 t b2 h1 h2
    simp only [Bool.and_eq_true, beq_iff_eq] at hg
    obtain ⟨hd, rfl⟩ := hg
    rw [h2] at hw
    simp only [Region.wanted, h1, yielded, hd, Option.bind_some]
    simp only [want] at hw
    split at hw
    · rename_i x hx
      obtain ⟨u, hu, hv⟩ := he _ _ hx
      cases hv
      simp only [Option.some.injEq] at hw; subst hw
      rw [hu]
      cases x <;> cases b1 <;> rfl
    · rename_i v hne hv0
      simp only [Option.some.injEq] at hw; subst hw
      obtain ⟨u, hu, hv⟩ := he _ _ hv0
      rw [hu]
      cases hv <;> first | rfl | exact absurd rfl (hne _)
    · cases hw
  · cases hg

theorem fitD_lt {N d d' t} (h : fitD N d d' = true) : d = d' ∧ (d' = some t → t < N) := by
  unfold fitD at h
  split at h
  · exact ⟨rfl, fun h => by cases h⟩
  · simp only [Bool.and_eq_true, beq_iff_eq, decide_eq_true_eq] at h
    obtain ⟨rfl, h2⟩ := h
    exact ⟨rfl, fun e => by cases e; exact h2⟩
  · cases h

theorem Tr.mon {P NG l e H e' H'} (h : Tr P NG l e H e' H') : Mon H H' := by
  induction h with
  | nil => exact Mon.refl _
  | pass _ _ ih => exact ih
  | step _ _ hm _ _ _ _ ih => exact hm.trans ih

def Post (NG : Nat) (ρ : Rho) (H : AH) (a : Act) (w : World) (e' : Env) (H' : AH) (a' : Act) (w' : World) : Prop :=
  ∃ ρ', Adv ρ H w ρ' H' w' ∧ RelE ρ' e' a'.tmps ∧ RelH NG ρ' H' w' ∧ a'.defers = a.defers ∧ a'.tmps.size = a.tmps.size

theorem put_facts (a : Act) (d : Option Tmp) (v : Value) : (a.put d v).defers = a.defers ∧ (a.put d v).tmps.size = a.tmps.size := by cases d <;> simp [Act.put]

theorem tr_text {N : Nat} {ops : Array Oper} : ∀ {l e H e' H'}, Tr P NG l e H e' H' → ∀ (k : Nat) (os : List Oper), ops.toList.drop k = os → fitL P NG N ops os l = true → ∀ (ρ : Rho) (a : Act) (w : World), RelE ρ e a.tmps → RelH NG ρ H w → Fresh ρ H.n H'.n → a.tmps.size = N →
    ∀ (Q : Exit → Act → World → Prop), (∀ a' w', Post NG ρ H a w e' H' a' w' → Q .normal a' w') → wpOps P ops Q ((List.range ops.size).drop k) a w := by
  intro l e H e' H' h
  induction h with
  | nil =>
    intro k os hos hf ρ a w he hH _ _ Q hQ
    cases os with
    | nil =>
      have : ops.size ≤ k := by
        have := congrArg List.length hos
        simp at this; omega
      rw [List.drop_of_length_le (by simpa using this)]
      exact hQ a w ⟨ρ, Adv.refl _ _ _, he, hH, rfl, rfl⟩
    | cons o os => simp [fitL] at hf
  | @pass o l e H e' H' hw _ ih =>
    intro k os hos hf ρ a w he hH hfr hN Q hQ
    cases os with
    | nil => simp [fitL] at hf
    | cons op os =>
      simp only [fitL, Bool.and_eq_true] at hf
      obtain ⟨⟨⟨f1, f2⟩, f3⟩, f4⟩ := hf
      have hk : k < ops.size := by
        rcases Nat.lt_or_ge k ops.size with h | h
        · exact h
        · rw [List.drop_of_length_le (by simpa using h)] at hos; cases hos
      have hop : ops[k]? = some op := by
        have := congrArg (fun l : List Oper => l[0]?) hos
        simpa [List.getElem?_drop] using this
      have hnext : ops.toList.drop (k + 1) = os := by have := congrArg List.tail hos; simpa [List.tail_drop] using this
      have hr : (List.range ops.size).drop k = k :: (List.range ops.size).drop (k + 1) := by
        rw [List.drop_eq_getElem_cons (by simpa using hk)]; simp
      rw [hr, wpOps_cons]
      unfold wpOp
      rw [hop]
      simp only [wanted_of he f2 hw, Bool.false_eq_true, if_false]
      have hd := fitD_lt (t := 0) f1
      have hpf := put_facts a op.dst undef
      refine ih (k + 1) os hnext f4 ρ (a.put op.dst undef) w ?_ hH hfr (by rw [hpf.2]; exact hN) Q ?_
      · rw [hd.1]
        exact he.upd (fun t ht => by rw [hN]; exact (fitD_lt f1).2 ht) (.tup rfl (fun i x v h => by simp at h)) a.defers
      · rintro a' w' ⟨ρ', p1, p2, p3, p4, p5⟩
        exact hQ a' w' ⟨ρ', p1, p2, p3, p4.trans hpf.1, p5.trans hpf.2⟩
  | @step o l e H v H1 e' H' hw hs hm _ _ _ htr ih =>
    intro k os hos hf ρ a w he hH hfr hN Q hQ
    cases os with
    | nil => simp [fitL] at hf
    | cons op os =>
      simp only [fitL, Bool.and_eq_true] at hf
      obtain ⟨⟨⟨f1, f2⟩, f3⟩, f4⟩ := hf
      have hk : k < ops.size := by
        rcases Nat.lt_or_ge k ops.size with h | h
        · exact h
        · rw [List.drop_of_length_le (by simpa using h)] at hos; cases hos
      have hop : ops[k]? = some op := by
        have := congrArg (fun l : List Oper => l[0]?) hos
        simpa [List.getElem?_drop] using this
      have hnext : ops.toList.drop (k + 1) = os := by have := congrArg List.tail hos; simpa [List.tail_drop] using this
      have hr : (List.range ops.size).drop k = k :: (List.range ops.size).drop (k + 1) := by
        rw [List.drop_eq_getElem_cons (by simpa using hk)]; simp
      rw [hr, wpOps_cons]
      unfold wpOp
      rw [hop]
      simp only [wanted_of he f2 hw, if_true]
      left
      refine hs op f3 e ρ a w (fun _ _ => rfl) he hH (hfr.sub htr.mon.n) _ _ ?_
      intro ρ1 cv w1 ha hH1 hv
      have hd := fitD_lt (t := 0) f1
      have hpf := put_facts a op.dst cv
      refine ih (k + 1) os hnext f4 ρ1 (a.put op.dst cv) w1 ?_ hH1 (ha.fresh hfr htr.mon.n) (by rw [hpf.2]; exact hN) Q ?_
      · rw [hd.1]
        exact (he.mono ha.sub).upd (fun t ht => by rw [hN]; exact (fitD_lt f1).2 ht) hv a.defers
      · rintro a' w' ⟨ρ', p1, p2, p3, p4, p5⟩
        exact hQ a' w' ⟨ρ', ha.trans hH (hfr.sub htr.mon.n) p1, p2, p3, p4.trans hpf.1, p5.trans hpf.2⟩

end
end Go.Proofs.YtcibjklpaljadaaGreat.AM
namespace Go.Proofs.YtcibjklpaljadaaGreat.AM
set_option linter.unusedSimpArgs false
set_option linter.unusedVariables false
open Go Go.RowKit

section
variable {P : Program} {NG : Nat}

structure Seq (P : Program) (NG : Nat) (l : List AO) (E : Nat → Env) (HH : Nat → AH) (vs : Nat → AV) : Prop where
  upd : ∀ (i : Nat) o, l[i]? = some o → E (i + 1) = upd (E i) o.d (vs i)
  step : ∀ (i : Nat) o, l[i]? = some o → (want (E i) o.c = some false ∧ vs i = .tup [] ∧ HH (i + 1) = HH i) ∨
    (want (E i) o.c = some true ∧ StepSim P NG o (E i) (HH i) (vs i) (HH (i + 1)) ∧ Mon (HH i) (HH (i + 1)) ∧ Guards (E i) (HH i) (HH (i + 1)) o.gd ∧ (o.q = true → Ext (HH i) (HH (i + 1))) ∧
      (isCall o.op = false → aop (E i) (HH i) o.op = some (vs i, HH (i + 1))))

theorem Tr.seq {l e H e' H'} (h : Tr P NG l e H e' H') : ∃ E HH vs, Seq P NG l E HH vs ∧ E 0 = e ∧ HH 0 = H ∧ E l.length = e' ∧ HH l.length = H' := by
  induction h with
  | @nil e H => exact ⟨fun _ => e, fun _ => H, fun _ => .tup [], ⟨fun i o h => by simp at h, fun i o h => by simp at h⟩, rfl, rfl, rfl, rfl⟩
  | @pass o l e H e' H' hw _ ih =>
    obtain ⟨E, HH, vs, hs, h0, h1, h2, h3⟩ := ih
    refine ⟨fun | 0 => e | i + 1 => E i, fun | 0 => H | i + 1 => HH i, fun | 0 => .tup [] | i + 1 => vs i, ⟨?_, ?_⟩, rfl, rfl, h2, h3⟩
    · intro i x hx
      cases i with
      | zero => simp at hx; subst hx; exact h0
      | succ i => exact hs.upd i x (by simpa using hx)
    · intro i x hx
      cases i with
      | zero => simp at hx; subst hx; exact .inl ⟨hw, rfl, h1⟩
      | succ i => exact hs.step i x (by simpa using hx)
  | @step o l e H v H1 e' H' hw hsim hm hg hq ho _ ih =>
    obtain ⟨E, HH, vs, hs, h0, h1, h2, h3⟩ := ih
    subst h1
    refine ⟨fun | 0 => e | i + 1 => E i, fun | 0 => H | i + 1 => HH i, fun | 0 => v | i + 1 => vs i, ⟨?_, ?_⟩, rfl, rfl, h2, h3⟩
    · intro i x hx
      cases i with
      | zero => simp at hx; subst hx; exact h0
      | succ i => exact hs.upd i x (by simpa using hx)
    · intro i x hx
      cases i with
      | zero => simp at hx; subst hx; exact .inr ⟨hw, hsim, hm, hg, hq, ho⟩
      | succ i => exact hs.step i x (by simpa using hx)

variable {l : List AO} {E : Nat → Env} {HH : Nat → AH} {vs : Nat → AV}

theorem Seq.mon (h : Seq P NG l E HH vs) {i j : Nat} (hij : i ≤ j) (hj : j ≤ l.length) : Mon (HH i) (HH j) := by
  induction j with
  | zero => have : i = 0 := by omega
            subst this; exact Mon.refl _
  | succ j ih =>
    by_cases e : i = j + 1
    · subst e; exact Mon.refl _
    · have hlt : j < l.length := by omega
      refine (ih (by omega) (by omega)).trans ?_
      rcases h.step j l[j] (List.getElem?_eq_getElem hlt) with ⟨_, _, hh⟩ | ⟨_, _, hm, _⟩
      · rw [hh]; exact Mon.refl _
      · exact hm

def isT (o : AO) : Bool := match clsOf o with | .t => true | _ => false

def still : AOp → Bool
  | .alloc _ | .box _ | .store .. | .mksl .. | .bsl .. | .app .. | .appz .. | .call .. | .callv .. => false
  | _ => true
theorem aop_same {e : Env} {H H' : AH} {op v} (hm : still op = true) (h : aop e H op = some (v, H')) : H' = H := by
  cases op <;> simp only [still, Bool.false_eq_true] at hm <;> simp only [AM.aop] at h
  case mv => obtain ⟨_, _, e⟩ := map_some h; cases e; rfl
  case pick => split at h <;> first | (obtain ⟨_, _, e⟩ := map_some h; cases e; rfl) | cases h
  case load => split at h <;> first | (obtain ⟨_, _, e⟩ := map_some h; cases e; rfl) | cases h
  case loadN => split at h <;> first | (obtain ⟨_, _, e⟩ := map_some h; cases e; rfl) | cases h
  case nilc => split at h <;> cases h <;> rfl
  case bin => split at h <;> first | (obtain ⟨_, _, e⟩ := map_some h; cases e; rfl) | cases h
  case eqB => split at h <;> cases h <;> rfl
  case eqN =>
    split at h
    · split at h <;> cases h <;> rfl
    · cases h
  case eqA =>
    split at h
    · split at h
      · obtain ⟨_, _, e⟩ := map_some h; cases e; rfl
      · cases h
    · cases h
  case un => split at h <;> first | (obtain ⟨_, _, e⟩ := map_some h; cases e; rfl) | cases h
  case conv => split at h <;> cases h <;> rfl
  case slice => split at h <;> first | (obtain ⟨_, _, e⟩ := map_some h; cases e; rfl) | cases h
  case fldA => split at h <;> cases h <;> rfl
  case fld => split at h <;> first | (obtain ⟨_, _, e⟩ := map_some h; cases e; rfl) | cases h
  case fldN => split at h <;> first | (obtain ⟨_, _, e⟩ := map_some h; cases e; rfl) | cases h
  case idxA =>
    split at h
    · split at h <;> cases h <;> rfl
    · cases h
  case idxAA =>
    split at h
    · split at h <;> cases h <;> rfl
    · cases h
  case idx =>
    split at h
    · split at h <;> cases h <;> rfl
    · cases h
  case ext => split at h <;> first | (obtain ⟨_, _, e⟩ := map_some h; cases e; rfl) | cases h
  case mkfn => split at h <;> cases h <;> rfl
  case build => split at h <;> first | (obtain ⟨_, _, e⟩ := map_some h; cases e; rfl) | cases h
  case len => split at h <;> first | (obtain ⟨_, _, e⟩ := map_some h; cases e; rfl) | cases h
  case mx => split at h <;> cases h <;> rfl
  case mn => split at h <;> cases h <;> rfl

theorem Seq.keeps (h : Seq P NG l E HH vs) {i : Nat} {o : AO} (ho : l[i]? = some o) (ht : isT o = false) : Ext (HH i) (HH (i + 1)) := by
  rcases h.step i o ho with ⟨_, _, hh⟩ | ⟨_, _, hm, _, hq, hop⟩
  · rw [hh]; exact Ext.refl _
  · cases hqq : o.q with
    | true => exact hq hqq
    | false =>
    cases hc : isCall o.op with
    | true =>
      exfalso
      unfold isT clsOf at ht
      cases hop2 : o.op <;> simp [hop2, isCall, hqq] at ht hc
    | false =>
      have hop := hop hc
      by_cases hst : still o.op = true
      · rw [aop_same hst hop]; exact Ext.refl _
      unfold isT clsOf at ht
      rw [hqq] at ht
      cases hop2 : o.op <;> rw [hop2] at ht hop hst hc <;> first
        | (simp only [still, not_true_eq_false] at hst; done)
        | (cases ht; done)
        | (simp only [isCall] at hc; cases hc; done)
        | skip
      all_goals simp only [AM.aop] at hop
      case alloc => simp only [Option.some.injEq, Prod.mk.injEq] at hop; rw [← hop.2]; exact Ext.push _ _
      case box =>
        split at hop
        · split at hop
          · cases hop
          · simp only [Option.some.injEq, Prod.mk.injEq] at hop; rw [← hop.2]; exact Ext.push _ _
        · cases hop
      case mksl =>
        split at hop
        · split at hop
          · simp only [Option.some.injEq, Prod.mk.injEq] at hop; rw [← hop.2]; exact Ext.push _ _
          · cases hop
        · cases hop
      case bsl => split at hop <;> first | (obtain ⟨_, _, e⟩ := map_some hop; simp only [Prod.mk.injEq] at e; rw [← e.2]; exact Ext.push _ _) | cases hop


def isTat (l : List AO) (i : Nat) : Bool := match l[i]? with | some o => isT o | none => false
def pOf (l : List AO) (D : Nat → Bool) : Nat := ((List.range l.length).find? fun t => isTat l t && !D t).getD l.length
def btOf (HH : Nat → AH) (m b : Nat) : Nat := ((List.range (m + 1)).find? fun j => decide (b < (HH j).n)).getD m
def heapD (l : List AO) (HH : Nat → AH) (D : Nat → Bool) : AH := ⟨(HH l.length).n, fun b => (HH (max (pOf l D) (btOf HH l.length b))).bk b⟩

theorem find_range {n : Nat} {f : Nat → Bool} : (∃ k, (List.range n).find? f = some k ∧ k < n ∧ f k = true ∧ ∀ j, j < k → f j = false) ∨ ((List.range n).find? f = none ∧ ∀ j, j < n → f j = false) := by
  cases h : (List.range n).find? f with
  | none =>
    right
    refine ⟨rfl, fun j hj => ?_⟩
    have := List.find?_eq_none.1 h j (List.mem_range.2 hj)
    simpa using this
  | some k =>
    left
    refine ⟨k, rfl, ?_, List.find?_some h, ?_⟩
    · exact List.mem_range.1 (List.mem_of_find?_eq_some h)
    · intro j hj
      have := (List.find?_range_eq_some.1 h).2.2 j hj
      simpa using this

theorem pOf_spec (l : List AO) (D : Nat → Bool) : pOf l D ≤ l.length ∧ (pOf l D < l.length → isTat l (pOf l D) = true ∧ D (pOf l D) = false) ∧ ∀ t, t < pOf l D → isTat l t = true → D t = true := by
  unfold pOf
  rcases find_range (n := l.length) (f := fun t => isTat l t && !D t) with ⟨k, h1, h2, h3, h4⟩ | ⟨h1, h2⟩
  · rw [h1, Option.getD_some]
    simp only [Bool.and_eq_true, Bool.not_eq_true'] at h3
    refine ⟨Nat.le_of_lt h2, fun _ => h3, fun t ht hT => ?_⟩
    have := h4 t ht
    simp only [hT, Bool.true_and, Bool.not_eq_false'] at this; exact this
  · rw [h1, Option.getD_none]
    refine ⟨Nat.le_refl _, fun h => absurd h (Nat.lt_irrefl _), fun t ht hT => ?_⟩
    have := h2 t ht
    simp only [hT, Bool.true_and, Bool.not_eq_false'] at this; exact this

theorem btOf_spec (HH : Nat → AH) (m b : Nat) : btOf HH m b ≤ m ∧ (b < (HH m).n → b < (HH (btOf HH m b)).n) ∧ ∀ j, j ≤ m → b < (HH j).n → btOf HH m b ≤ j := by
  unfold btOf
  rcases find_range (n := m + 1) (f := fun j => decide (b < (HH j).n)) with ⟨k, h1, h2, h3, h4⟩ | ⟨h1, h2⟩
  · rw [h1, Option.getD_some]
    refine ⟨by omega, fun _ => by simpa using h3, fun j hj hb => ?_⟩
    rcases Nat.lt_or_ge j k with h | h
    · have := h4 j h; simp at this; omega
    · exact h
  · rw [h1, Option.getD_none]
    refine ⟨Nat.le_refl _, fun h => h, fun j hj hb => ?_⟩
    have := h2 j (by omega); simp at this; omega

theorem stays {HH : Nat → AH} {b i j : Nat} (hij : i ≤ j) (h : ∀ t, i ≤ t → t < j → (HH (t + 1)).bk b = (HH t).bk b) : (HH j).bk b = (HH i).bk b := by
  induction j with
  | zero => have : i = 0 := by omega
            subst this; rfl
  | succ j ih =>
    by_cases e : i = j + 1
    · subst e; rfl
    · rw [h j (by omega) (by omega)]; exact ih (by omega) (fun t a b => h t a (by omega))

theorem Seq.keeps_at (h : Seq P NG l E HH vs) {t b : Nat} (ht : t < l.length) (hT : isTat l t = false) (hb : b < (HH t).n) : (HH (t + 1)).bk b = (HH t).bk b := by
  have ho : l[t]? = some l[t] := List.getElem?_eq_getElem ht
  have : isT l[t] = false := by unfold isTat at hT; rw [ho] at hT; exact hT
  exact (h.keeps ho this).2 b hb

theorem Seq.flat (h : Seq P NG l E HH vs) {i j b : Nat} (hij : i ≤ j) (hj : j ≤ l.length) (hT : ∀ t, i ≤ t → t < j → isTat l t = false) (hb : b < (HH i).n) : (HH j).bk b = (HH i).bk b :=
  stays hij fun t h1 h2 => h.keeps_at (by omega) (hT t h1 h2) (Nat.lt_of_lt_of_le hb (h.mon h1 (by omega)).n)

def envOf (e0 : Env) (vs : Nat → AV) (D : Nat → Bool) : List AO → Nat → Env
  | [], _ => e0
  | o :: l, k => if D k = true then upd (envOf e0 vs D l (k + 1)) o.d (vs k) else envOf e0 vs D l (k + 1)

theorem get_upd (e : Env) (d : Option Nat) (v : AV) (t : Nat) : get (upd e d v) t = if d = some t then some v else get e t := by
  cases d with
  | none => simp [upd]
  | some s =>
    simp only [upd, get, Option.some.injEq]
    by_cases h : t = s
    · subst h; simp
    · rw [if_neg h, if_neg (fun e => h e.symm)]

theorem get_envOf_none (e0 : Env) (vs : Nat → AV) (D : Nat → Bool) (t : Nat) : ∀ (l : List AO) (k : Nat), (∀ i o, l[i]? = some o → o.d = some t → D (k + i) = false) → get (envOf e0 vs D l k) t = get e0 t
  | [], _, _ => rfl
  | o :: l, k, h => by
    have ih := get_envOf_none e0 vs D t l (k + 1) (fun i o ho hd => by have := h (i + 1) o (by simpa using ho) hd; rw [← this]; congr 1; omega)
    simp only [envOf]
    split
    · rename_i hD
      rw [get_upd, ih, if_neg]
      intro hd
      have := h 0 o rfl hd
      simp at this; rw [this] at hD; cases hD
    · exact ih

theorem get_envOf_some (e0 : Env) (vs : Nat → AV) (D : Nat → Bool) (t : Nat) : ∀ (l : List AO) (k i : Nat) (o : AO), l[i]? = some o → o.d = some t → D (k + i) = true → (∀ j o', l[j]? = some o' → o'.d = some t → j = i) → get (envOf e0 vs D l k) t = some (vs (k + i))
  | [], _, _, _, h, _, _, _ => by simp at h
  | a :: l, k, 0, o, h, hd, hD, hu => by
    simp at h; subst h
    simp only [envOf]
    have : D k = true := by simpa using hD
    rw [if_pos this, get_upd, if_pos hd]; rfl
  | a :: l, k, i + 1, o, h, hd, hD, hu => by
    have ih := get_envOf_some e0 vs D t l (k + 1) i o (by simpa using h) hd (by rw [← hD]; congr 1; omega) (fun j o' h' hd' => by have := hu (j + 1) o' (by simpa using h') hd'; omega)
    have hne : a.d ≠ some t := fun e => by have := hu 0 a rfl e; omega
    have e1 : k + 1 + i = k + (i + 1) := by omega
    rw [e1] at ih
    simp only [envOf]
    split
    · rw [get_upd, if_neg hne]; exact ih
    · exact ih

theorem get_envOf_congr (e0 : Env) (vs : Nat → AV) (D D' : Nat → Bool) (t : Nat) : ∀ (l : List AO) (k : Nat), (∀ i o, l[i]? = some o → o.d = some t → D (k + i) = D' (k + i)) → get (envOf e0 vs D l k) t = get (envOf e0 vs D' l k) t
  | [], _, _ => rfl
  | o :: l, k, h => by
    have ih := get_envOf_congr e0 vs D D' t l (k + 1) (fun i o ho hd => by
      have := h (i + 1) o (by simpa using ho) hd
      have e : k + 1 + i = k + (i + 1) := by omega
      rw [e]; exact this)
    have hsplit : ∀ (D : Nat → Bool), get (envOf e0 vs D (o :: l) k) t = if o.d = some t ∧ D k = true then some (vs k) else get (envOf e0 vs D l (k + 1)) t := by
      intro D
      simp only [envOf]
      split
      · rename_i hD
        rw [get_upd]; simp [hD]
      · rename_i hD
        rw [if_neg (fun q => hD q.2)]
    rw [hsplit D, hsplit D', ih]
    by_cases hd : o.d = some t
    · have := h 0 o rfl hd
      simp only [Nat.add_zero] at this; rw [this]
    · rw [if_neg (fun q => hd q.1), if_neg (fun q => hd q.1)]

theorem Seq.get_none (h : Seq P NG l E HH vs) {t : Nat} : ∀ (i : Nat), i ≤ l.length → (∀ j o, j < i → l[j]? = some o → o.d ≠ some t) → get (E i) t = get (E 0) t
  | 0, _, _ => rfl
  | i + 1, hi, hn => by
    have ho : l[i]? = some l[i] := List.getElem?_eq_getElem (by omega)
    rw [h.upd i _ ho, get_upd, if_neg (hn i _ (by omega) ho)]
    exact Seq.get_none h i (by omega) (fun j o hj => hn j o (by omega))

theorem Seq.get_some (h : Seq P NG l E HH vs) {t j : Nat} {o : AO} (ho : l[j]? = some o) (hd : o.d = some t) (hu : ∀ j' o', l[j']? = some o' → o'.d = some t → j' = j) : ∀ (i : Nat), i ≤ l.length → j < i → get (E i) t = some (vs j)
  | 0, _, hj => by omega
  | i + 1, hi, hj => by
    have hx : l[i]? = some l[i] := List.getElem?_eq_getElem (by omega)
    rw [h.upd i _ hx, get_upd]
    by_cases e : i = j
    · subst e
      rw [ho] at hx; cases hx
      rw [if_pos hd]
    · rw [if_neg (fun q => e (hu i _ hx q))]
      exact Seq.get_some h ho hd hu i (by omega) (by omega)

theorem testBit_maskOf (acc : List Nat) (i : Nat) : ∀ (ks : List Nat), (maskOf acc ks).testBit i = true → ∃ k ∈ ks, i = k ∨ (acc.getD k 0).testBit i = true
  | [], h => by simp [maskOf] at h
  | k :: ks, h => by
    simp only [maskOf, Nat.testBit_or, Bool.or_eq_true] at h
    rcases h with (h | h) | h
    · rw [Nat.testBit_two_pow] at h
      exact ⟨k, by simp, .inl (by simpa using h : k = i).symm⟩
    · exact ⟨k, by simp, .inr h⟩
    · obtain ⟨k', h1, h2⟩ := testBit_maskOf acc i ks h
      exact ⟨k', by simp [h1], h2⟩

theorem masks_spec : ∀ (os : List Oper) (acc : List Nat), (∃ rest, masks os acc = acc ++ rest) ∧ ∀ j o, os[j]? = some o → (masks os acc).getD (acc.length + j) 0 = maskOf ((masks os acc).take (acc.length + j)) (dirs o)
  | [], acc => ⟨⟨[], by simp [masks]⟩, fun j o h => by simp at h⟩
  | o :: os, acc => by
    obtain ⟨⟨rest, hr⟩, h2⟩ := masks_spec os (acc ++ [maskOf acc (dirs o)])
    refine ⟨⟨maskOf acc (dirs o) :: rest, by simp only [masks]; rw [hr]; simp⟩, fun j o' h => ?_⟩
    simp only [masks]
    cases j with
    | zero =>
      simp at h; subst h
      rw [hr]
      simp
    | succ j =>
      have := h2 j o' (by simpa using h)
      simp only [List.length_append, List.length_singleton] at this
      rw [show acc.length + (j + 1) = acc.length + 1 + j from by omega]
      exact this

theorem closed {ops : Array Oper} {D : Nat → Bool} (hd : dirsOk ops.toList = true) (h1 : ∀ j o, D j = true → ops[j]? = some o → ∀ k ∈ dirs o, D k = true) (hlt : ∀ j, D j = true → j < ops.size) :
    ∀ (j : Nat) (o : Oper), ops[j]? = some o → (∀ k ∈ dirs o, D k = true) → ∀ i, ((masks ops.toList []).getD j 0).testBit i = true → D i = true := by
  intro j
  induction j using Nat.strongRecOn with
  | _ j ih =>
    intro o ho hall i hi
    have hspec := (masks_spec ops.toList []).2 j o (by rw [Array.getElem?_toList]; exact ho)
    simp only [List.length_nil, Nat.zero_add] at hspec
    rw [hspec] at hi
    obtain ⟨k, hk, h | h⟩ := testBit_maskOf _ _ _ hi
    · subst h; exact hall _ hk
    · have hDk := hall k hk
      have hkj : k < j := by
        have hj : j < ops.size := (Array.getElem?_eq_some_iff.1 ho).1
        have := List.all_eq_true.1 hd j (List.mem_range.2 (by simpa using hj))
        have e : ops.toList[j]? = some o := by rw [Array.getElem?_toList]; exact ho
        simp only [e] at this
        simpa using List.all_eq_true.1 this k hk
      have hks := hlt k hDk
      have hk2 : ops[k]? = some ops[k] := Array.getElem?_eq_getElem hks
      refine ih k hkj _ hk2 (h1 k _ hDk hk2) i ?_
      rw [← h]
      rw [List.getD_eq_getElem?_getD, List.getD_eq_getElem?_getD, List.getElem?_take, if_pos hkj]

theorem pairsOk_spec {ms : List Nat} {l : List AO} (h : pairsOk ms l = true) {i j : Nat} {a b : AO} (hij : i < j) (ha : l[i]? = some a) (hb : l[j]? = some b) :
    ((ms.getD j 0).testBit i = true ∨ free ((l.drop (i + 1)).take (j - i - 1)) a b = true) ∧ (∀ t, a.d = some t → b.d ≠ some t) := by
  have hj : j < l.length := (List.getElem?_eq_some_iff.1 hb).1
  have h1 := List.all_eq_true.1 (List.all_eq_true.1 h j (List.mem_range.2 hj)) i (List.mem_range.2 hij)
  simp only [ha, hb, Bool.and_eq_true, Bool.or_eq_true] at h1
  refine ⟨h1.1, fun t ht hb' => ?_⟩
  rcases h1.2 with h2 | h2
  · rw [ht] at h2; cases h2
  · rw [ht, hb'] at h2; simp at h2

end
end Go.Proofs.YtcibjklpaljadaaGreat.AM
namespace Go.Proofs.YtcibjklpaljadaaGreat.AM
set_option linter.unusedSimpArgs false
set_option linter.unusedVariables false
open Go Go.RowKit

section
variable {P : Program} {NG : Nat} {l : List AO} {E : Nat → Env} {HH : Nat → AH} {vs : Nat → AV}

theorem aop_local {e : Env} {H H' : AH} {op v} (hc : isCall op = false) (h : aop e H op = some (v, H')) :
    (match clsOf ⟨none, none, [], false, op⟩ with
     | .p => H' = H ∧ ∀ G, aop e G op = some (v, G)
     | .l x => H' = H ∧ ∃ b o, ev e x = some (.ptr b o) ∧ (H.bk b).isSome = true ∧ ∀ G : AH, G.bk b = H.bk b → aop e G op = some (v, G)
     | .a => ∃ cs, H' = H.push cs ∧ (∃ o, v = .ptr H.n o ∨ ∃ n c, v = .sl H.n o n c) ∧ ∀ G : AH, G.n = H.n → aop e G op = some (v, G.push cs)
     | _ => True) := by
  cases op <;> simp only [isCall, Bool.true_eq_false] at hc <;> simp only [clsOf] <;> simp only [AM.aop] at h ⊢
  case alloc z =>
    simp only [Option.some.injEq, Prod.mk.injEq] at h; obtain ⟨rfl, rfl⟩ := h
    exact ⟨z, rfl, ⟨0, .inl rfl⟩, fun G hG => by rw [hG]⟩
  case box x =>
    cases hx : ev e x with
    | none => rw [hx] at h; cases h
    | some u =>
      rw [hx] at h
      simp only at h ⊢
      split at h
      · cases h
      · rename_i ht
        simp only [Option.some.injEq, Prod.mk.injEq] at h; obtain ⟨rfl, rfl⟩ := h
        exact ⟨u.cells, rfl, ⟨0, .inl rfl⟩, fun G hG => by rw [if_neg ht, hG]⟩
  case mksl z l c =>
    cases hl : ev e l with
    | none => rw [hl] at h; cases h
    | some u =>
      cases hcc : ev e c with
      | none => rw [hl, hcc] at h; cases u <;> cases h
      | some u' =>
        rw [hl, hcc] at h
        cases u <;> first | (cases h; done) | skip
        cases u' <;> first | (cases h; done) | skip
        simp only at h ⊢
        split at h
        · rename_i hr
          simp only [Option.some.injEq, Prod.mk.injEq] at h; obtain ⟨rfl, rfl⟩ := h
          exact ⟨_, rfl, ⟨0, .inr ⟨_, _, rfl⟩⟩, fun G hG => by rw [if_pos hr, hG]⟩
        · cases h
  case bsl z n ps =>
    cases hp : evParts e ps with
    | none => rw [hp] at h; cases h
    | some us =>
      rw [hp] at h
      simp only at h ⊢
      obtain ⟨cs, hcs, e2⟩ := map_some h
      simp only [Prod.mk.injEq] at e2; obtain ⟨rfl, rfl⟩ := e2
      exact ⟨cs, rfl, ⟨0, .inr ⟨_, _, rfl⟩⟩, fun G hG => by rw [hcs, Option.map_some, hG]⟩
  case app => trivial
  case appz => trivial
  case load x =>
    cases hx : ev e x with
    | none => rw [hx] at h; cases h
    | some u =>
      rw [hx] at h
      cases u <;> first | (cases h; done) | skip
      rename_i b o
      simp only at h ⊢
      obtain ⟨r, hr, e2⟩ := map_some h
      simp only [Prod.mk.injEq] at e2; obtain ⟨rfl, rfl⟩ := e2
      refine ⟨rfl, b, o, rfl, ?_, fun G hG => ?_⟩
      · unfold AH.load at hr
        cases hk : H.bk b with
        | none => rw [hk] at hr; cases hr
        | some k => rfl
      · have : G.load b o = H.load b o := by unfold AH.load; rw [hG]
        rw [this, hr]; rfl
  case loadN n x =>
    cases hx : ev e x with
    | none => rw [hx] at h; cases h
    | some u =>
      rw [hx] at h
      cases u <;> first | (cases h; done) | skip
      rename_i b o
      simp only at h ⊢
      obtain ⟨r, hr, e2⟩ := map_some h
      simp only [Prod.mk.injEq] at e2; obtain ⟨rfl, rfl⟩ := e2
      refine ⟨rfl, b, o, rfl, ?_, fun G hG => ?_⟩
      · unfold AH.loadN at hr
        cases hk : H.bk b with
        | none => rw [hk] at hr; cases hr
        | some k => rfl
      · have : G.loadN b o n = H.loadN b o n := by unfold AH.loadN; rw [hG]
        rw [this, hr]; rfl
  case mv => obtain ⟨u, hu, e2⟩ := map_some h; cases e2; exact ⟨rfl, fun G => by rw [hu]; rfl⟩
  case pick c a b =>
    split at h
    · rename_i hq; obtain ⟨u, hu, e2⟩ := map_some h; cases e2; exact ⟨rfl, fun G => by simp only [hq, hu]; rfl⟩
    · rename_i hq; obtain ⟨u, hu, e2⟩ := map_some h; cases e2; exact ⟨rfl, fun G => by simp only [hq, hu]; rfl⟩
    · cases h
  case nilc => split at h <;> first | (rename_i hq; cases h; exact ⟨rfl, fun G => by simp only [hq]⟩) | cases h
  case bin => split at h <;> first | (rename_i hq hq'; obtain ⟨u, hu, e2⟩ := map_some h; cases e2; exact ⟨rfl, fun G => by simp only [hq, hq', hu]; rfl⟩) | cases h
  case eqB => split at h <;> first | (rename_i hq hq'; cases h; exact ⟨rfl, fun G => by simp only [hq, hq']⟩) | cases h
  case eqN =>
    split at h
    · rename_i hq hq'
      split at h <;> first | (rename_i g g'; cases h; refine ⟨rfl, fun G => ?_⟩; simp only [hq, hq', g, g']; done) | cases h
    · cases h
  case eqA =>
    split at h
    · rename_i hq hq'
      split at h
      · rename_i g; obtain ⟨u, hu, e2⟩ := map_some h; cases e2; exact ⟨rfl, fun G => by simp only [hq, hq', if_pos g, hu]; rfl⟩
      · cases h
    · cases h
  case un => split at h <;> first | (rename_i hq; obtain ⟨u, hu, e2⟩ := map_some h; cases e2; exact ⟨rfl, fun G => by simp only [hq, hu]; rfl⟩) | cases h
  case conv => split at h <;> first | (rename_i hq; cases h; exact ⟨rfl, fun G => by simp only [hq]⟩) | cases h
  case slice => split at h <;> first | (rename_i h1 h2 h3 h4; obtain ⟨u, hu, e2⟩ := map_some h; cases e2; exact ⟨rfl, fun G => by simp only [h1, h2, h3, h4, hu]; rfl⟩) | cases h
  case fldA => split at h <;> first | (rename_i hq; cases h; exact ⟨rfl, fun G => by simp only [hq]⟩) | cases h
  case fld => split at h <;> first | (rename_i hq; obtain ⟨u, hu, e2⟩ := map_some h; cases e2; exact ⟨rfl, fun G => by simp only [hq, hu]; rfl⟩) | cases h
  case fldN => split at h <;> first | (rename_i hq; obtain ⟨u, hu, e2⟩ := map_some h; cases e2; exact ⟨rfl, fun G => by simp only [hq, hu]; rfl⟩) | cases h
  case idxA =>
    split at h
    · rename_i hq hq'
      split at h
      · rename_i g; cases h; exact ⟨rfl, fun G => by simp only [hq, hq', if_pos g]⟩
      · cases h
    · cases h
  case idxAA =>
    split at h
    · rename_i hq hq'
      split at h
      · rename_i g; cases h; exact ⟨rfl, fun G => by simp only [hq, hq', if_pos g]⟩
      · cases h
    · cases h
  case idx =>
    split at h
    · rename_i hq hq'
      split at h
      · rename_i g; cases h; exact ⟨rfl, fun G => by simp only [hq, hq', dif_pos g]⟩
      · cases h
    · cases h
  case ext => split at h <;> first | (rename_i hq; obtain ⟨u, hu, e2⟩ := map_some h; cases e2; exact ⟨rfl, fun G => by simp only [hq, hu]; rfl⟩) | cases h
  case mkfn => split at h <;> first | (rename_i hq hq'; cases h; exact ⟨rfl, fun G => by simp only [hq, hq']⟩) | cases h
  case build => split at h <;> first | (rename_i hq; obtain ⟨u, hu, e2⟩ := map_some h; cases e2; exact ⟨rfl, fun G => by simp only [hq, hu]; rfl⟩) | cases h
  case len => split at h <;> first | (rename_i hq; obtain ⟨u, hu, e2⟩ := map_some h; cases e2; exact ⟨rfl, fun G => by simp only [hq, hu]; rfl⟩) | cases h
  case mx => split at h <;> first | (rename_i hq hq'; cases h; exact ⟨rfl, fun G => by simp only [hq, hq']⟩) | cases h
  case mn => split at h <;> first | (rename_i hq hq'; cases h; exact ⟨rfl, fun G => by simp only [hq, hq']⟩) | cases h

theorem RelH.view {NG ρ G w} (h : RelH NG ρ G w) {H : AH} (hwf : Wf H) (hag : ∀ b r, ρ b = some r → b < H.n → H.bk b = G.bk b) : RelH NG ρ H w := by
  have key : ∀ b r k, ρ b = some r → H.bk b = some k → G.bk b = some k := by
    intro b r k hb hk
    rcases Nat.lt_or_ge b H.n with q | q
    · rw [← hag b r hb q]; exact hk
    · rw [hwf b q] at hk; cases hk
  exact ⟨hwf, h.glob, h.dom, fun b B o x k hb hk => h.row b B o x k hb (key b _ k hb hk), fun b B o x k hb hk => h.own b B o x k hb (key b _ k hb hk),
    fun b b' B o x o' x' k k' hne hb hb' hk hk' => h.dis b b' B o x o' x' k k' hne hb hb' (key b _ k hb hk) (key b' _ k' hb' hk')⟩

theorem RelH.widen {NG ρ G w ρ' H H' w' G'} (hG : RelH NG ρ G w) (hH : RelH NG ρ H w) (hag : ∀ b r, ρ b = some r → b < H.n → H.bk b = G.bk b) (ha : Adv ρ H w ρ' H' w') (hH' : RelH NG ρ' H' w') (hfr : Fresh ρ H.n H'.n)
    (hwf : Wf G') (g1 : ∀ b r, ρ' b = some r → b < H'.n → G'.bk b = H'.bk b) (g2 : ∀ b r, ρ b = some r → H'.n ≤ b → G'.bk b = G.bk b) : RelH NG ρ' G' w' := by
  have old : ∀ b r, ρ' b = some r → H'.n ≤ b → ρ b = some r := by
    intro b r hb hn
    obtain ⟨B, o, x⟩ := r
    rcases ha.new b B o x hb with h1 | ⟨_, h2, _⟩
    · exact h1
    · omega
  have quiet : ∀ b B o x k, ρ b = some (B, o, x) → H'.n ≤ b → G.bk b = some k → Quiet ρ H B := by
    intro b B o x k hb hn hk b3 o3 x3 k3 h3 hk3
    have hlt : b3 < H.n := by
      rcases Nat.lt_or_ge b3 H.n with q | q
      · exact q
      · rw [hH.wf b3 q] at hk3; cases hk3
    have hg3 : G.bk b3 = some k3 := by rw [← hag b3 _ h3 hlt]; exact hk3
    have hne : b3 ≠ b := by have := ha.mon.n; omega
    exact hG.dis b3 b B o3 x3 o x k3 k hne h3 hb hg3 hk
  have heap : ∀ b B o x k, ρ b = some (B, o, x) → H'.n ≤ b → G.bk b = some k → w'.heap[B]? = w.heap[B]? := fun b B o x k hb hn hk =>
    ha.fr.heap B (hG.dom b B o x hb) (quiet b B o x k hb hn hk)
  have mixed : ∀ b1 b2 B o1 x1 o2 x2 k1 k2, ρ' b1 = some (B, o1, x1) → b1 < H'.n → H'.bk b1 = some k1 → ρ b2 = some (B, o2, x2) → H'.n ≤ b2 → G.bk b2 = some k2 → k1.wr = false ∧ k2.wr = false := by
    intro b1 b2 B o1 x1 o2 x2 k1 k2 h1 hn1 hk1 h2 hn2 hk2
    have q := quiet b2 B o2 x2 k2 h2 hn2 hk2
    rcases ha.new b1 B o1 x1 h1 with h | ⟨_, _, h | h⟩
    · have hlt : b1 < H.n := by
        rcases Nat.lt_or_ge b1 H.n with q | q
        · exact q
        · rw [hfr b1 q hn1] at h; cases h
      obtain ⟨k0, hk0, hw⟩ := ha.mon.old b1 hlt k1 hk1
      have hg0 : G.bk b1 = some k0 := by rw [← hag b1 _ h hlt]; exact hk0
      have hne : b1 ≠ b2 := by omega
      have d1 := hG.dis b1 b2 B o1 x1 o2 x2 k0 k2 hne h h2 hg0 hk2
      have d2 := hG.dis b2 b1 B o2 x2 o1 x1 k2 k0 (Ne.symm hne) h2 h hk2 hg0
      refine ⟨?_, d2⟩
      cases hq : k1.wr with
      | false => rfl
      | true => rw [hw hq] at d1; cases d1
    · have := hG.dom b2 B o2 x2 h2; omega
    · exact absurd q h
  refine ⟨hwf, hH'.glob, hH'.dom, ?_, ?_, ?_⟩
  · intro b B o x k hb hk
    rcases Nat.lt_or_ge b H'.n with q | q
    · rw [g1 b _ hb q] at hk; exact hH'.row b B o x k hb hk
    · have hb0 := old b _ hb q
      rw [g2 b _ hb0 q] at hk
      have hr := hG.row b B o x k hb0 hk
      exact ⟨hr.1, hr.2.mono ha.sub (heap b B o x k hb0 q hk)⟩
  · intro b B o x k hb hk hw
    rcases Nat.lt_or_ge b H'.n with q | q
    · rw [g1 b _ hb q] at hk; exact hH'.own b B o x k hb hk hw
    · have hb0 := old b _ hb q
      rw [g2 b _ hb0 q] at hk
      rw [heap b B o x k hb0 q hk]
      exact hG.own b B o x k hb0 hk hw
  · intro b1 b2 B o1 x1 o2 x2 k1 k2 hne h1 h2 hk1 hk2
    rcases Nat.lt_or_ge b1 H'.n with q1 | q1
    · rw [g1 b1 _ h1 q1] at hk1
      rcases Nat.lt_or_ge b2 H'.n with q2 | q2
      · rw [g1 b2 _ h2 q2] at hk2
        exact hH'.dis b1 b2 B o1 x1 o2 x2 k1 k2 hne h1 h2 hk1 hk2
      · have hb2 := old b2 _ h2 q2
        rw [g2 b2 _ hb2 q2] at hk2
        exact (mixed b1 b2 B o1 x1 o2 x2 k1 k2 h1 q1 hk1 hb2 q2 hk2).1
    · have hb1 := old b1 _ h1 q1
      rw [g2 b1 _ hb1 q1] at hk1
      rcases Nat.lt_or_ge b2 H'.n with q2 | q2
      · rw [g1 b2 _ h2 q2] at hk2
        exact (mixed b2 b1 B o2 x2 o1 x1 k2 k1 h2 q2 hk2 hb1 q1 hk1).2
      · have hb2 := old b2 _ h2 q2
        rw [g2 b2 _ hb2 q2] at hk2
        exact hG.dis b1 b2 B o1 x1 o2 x2 k1 k2 hne hb1 hb2 hk1 hk2

end
end Go.Proofs.YtcibjklpaljadaaGreat.AM
namespace Go.Proofs.YtcibjklpaljadaaGreat.AM
set_option linter.unusedSimpArgs false
set_option linter.unusedVariables false
open Go Go.RowKit

section
variable {P : Program} {NG : Nat} {l : List AO} {E : Nat → Env} {HH : Nat → AH} {vs : Nat → AV}

structure Inv (NG : Nat) (l : List AO) (HH : Nat → AH) (vs : Nat → AV) (e0 : Env) (ρ0 : Rho) (w0 : World) (D : Nat → Bool) (ρ : Rho) (tm : Array Value) (w : World) : Prop where
  env : RelE ρ (envOf e0 vs D l 0) tm
  rel : RelH NG ρ (heapD l HH D) w
  dom : ∀ b r, ρ b = some r → ρ0 b = some r ∨ ∃ j, D j = true ∧ j < l.length ∧ (HH j).n ≤ b ∧ b < (HH (j + 1)).n
  adv : Adv ρ0 (HH 0) w0 ρ (heapD l HH D) w

structure Ready (l : List AO) (D : Nat → Bool) (i : Nat) : Prop where
  lt : i < l.length
  nd : D i = false
  ahead : ∀ (t : Nat) (a b : AO), t < i → D t = false → l[t]? = some a → l[i]? = some b → free ((l.drop (t + 1)).take (i - t - 1)) a b = true
  behind : ∀ (s t : Nat) (a b : AO), s < t → D s = false → D t = true → l[s]? = some a → l[t]? = some b → free ((l.drop (s + 1)).take (t - s - 1)) a b = true
  uniq : ∀ (s t : Nat) (a b : AO) (n : Nat), l[s]? = some a → l[t]? = some b → a.d = some n → b.d = some n → s = t

theorem free_names {mid : List AO} {a b : AO} (h : free mid a b = true) : (∀ n, a.d = some n → n ∉ tmpsOf b) ∧ (∀ n, b.d = some n → n ∉ tmpsOf a) := by
  unfold free at h
  simp only [Bool.and_eq_true] at h
  refine ⟨fun n hn => ?_, fun n hn => ?_⟩
  · have := h.1.1; rw [hn] at this; simpa using this
  · have := h.1.2; rw [hn] at this; simpa using this

theorem Ready.get {D : Nat → Bool} {i : Nat} (hr : Ready l D i) (hs : Seq P NG l E HH vs) {o : AO} (ho : l[i]? = some o) {n : Nat} (hn : n ∈ tmpsOf o) : get (envOf (E 0) vs D l 0) n = get (E i) n := by
  by_cases hex : ∃ (j : Nat) (a : AO), l[j]? = some a ∧ a.d = some n
  · obtain ⟨j, a, ha, hd⟩ := hex
    have hu : ∀ (j' : Nat) (o' : AO), l[j']? = some o' → o'.d = some n → j' = j := fun j' o' h1 h2 => hr.uniq j' j o' a n h1 ha h2 hd
    rcases Nat.lt_trichotomy j i with h | h | h
    · have hD : D j = true := by
        cases hq : D j with
        | true => rfl
        | false => exact absurd hn ((free_names (hr.ahead j a o h hq ha ho)).1 n hd)
      rw [hs.get_some ha hd hu i (Nat.le_of_lt hr.lt) h]
      have := get_envOf_some (E 0) vs D n l 0 j a ha hd (by simpa using hD) (fun j' o' h1 h2 => hu j' o' h1 h2)
      simpa using this
    · subst h
      rw [hs.get_none j (Nat.le_of_lt hr.lt) (fun j' o' hj h1 h2 => by have := hu j' o' h1 h2; omega)]
      exact get_envOf_none (E 0) vs D n l 0 (fun j' o' h1 h2 => by rw [hu j' o' h1 h2]; simpa using hr.nd)
    · have hD : D j = false := by
        cases hq : D j with
        | false => rfl
        | true => exact absurd hn ((free_names (hr.behind i j o a h hr.nd hq ho ha)).2 n hd)
      rw [hs.get_none i (Nat.le_of_lt hr.lt) (fun j' o' hj h1 h2 => by have := hu j' o' h1 h2; omega)]
      exact get_envOf_none (E 0) vs D n l 0 (fun j' o' h1 h2 => by rw [hu j' o' h1 h2]; simpa using hD)
  · rw [hs.get_none i (Nat.le_of_lt hr.lt) (fun j' o' _ h1 h2 => hex ⟨j', o', h1, h2⟩)]
    exact get_envOf_none (E 0) vs D n l 0 (fun j' o' h1 h2 => absurd ⟨j', o', h1, h2⟩ hex)

theorem Ready.ev {D : Nat → Bool} {i : Nat} (hr : Ready l D i) (hs : Seq P NG l E HH vs) {o : AO} (ho : l[i]? = some o) : ∀ x ∈ xsOf o.op, AM.ev (envOf (E 0) vs D l 0) x = AM.ev (E i) x := by
  intro x hx
  cases x with
  | t n => exact hr.get hs ho (by unfold tmpsOf; rw [List.mem_append]; left; rw [List.mem_filterMap]; exact ⟨_, hx, rfl⟩)
  | c v => rfl
  | g n => rfl
theorem Ready.want {D : Nat → Bool} {i : Nat} (hr : Ready l D i) (hs : Seq P NG l E HH vs) {o : AO} (ho : l[i]? = some o) : AM.want (envOf (E 0) vs D l 0) o.c = AM.want (E i) o.c := by
  cases hc : o.c with
  | none => rfl
  | some q =>
    obtain ⟨t, b⟩ := q
    simp only [AM.want]
    rw [hr.get hs ho (by unfold tmpsOf; rw [List.mem_append]; right; rw [hc]; simp)]

theorem isTat_eq {i : Nat} {o : AO} (ho : l[i]? = some o) : isTat l i = isT o := by unfold isTat; rw [ho]

def with_ (D : Nat → Bool) (i : Nat) : Nat → Bool := fun j => if j = i then true else D j
theorem with_same (D : Nat → Bool) (i : Nat) : with_ D i i = true := by simp [with_]
theorem with_ne (D : Nat → Bool) {i j : Nat} (h : j ≠ i) : with_ D i j = D j := by simp [with_, h]

theorem free_cls {mid : List AO} {a b : AO} (h : free mid a b = true) :
    (match clsOf a, clsOf b with
     | .t, .t | .t, .q | .q, .t => False
     | .t, .l x => a.gd.any (axEq x) = true ∧ (∀ n, x = .t n → mid.all (fun o => o.d != some n) = true ∧ a.d ≠ some n)
     | .a, .t => ∃ n, a.d = some n ∧ b.gd.any (axEq (.t n)) = true
     | .l x, .t => b.gd.any (axEq x) = true ∧ (∀ n, x = .t n → mid.all (fun o => o.d != some n) = true ∧ a.d ≠ some n)
     | _, _ => True) := by
  unfold free at h
  simp only [Bool.and_eq_true] at h
  have h := h.2
  cases ha : clsOf a <;> cases hb : clsOf b <;> rw [ha, hb] at h <;> simp only at h ⊢ <;> first | trivial | (cases h; done) | skip
  · split at h
    · rename_i n hn; exact ⟨n, hn, h⟩
    · cases h
  all_goals
    rename_i x
    simp only [Bool.and_eq_true] at h
    refine ⟨h.1, fun n hx => ?_⟩
    subst hx
    have h2 := h.2
    simp only [Bool.and_eq_true, bne_iff_ne] at h2
    exact h2

theorem guards_mem {e : Env} {H H' : AH} : ∀ {gd : List AX}, Guards e H H' gd → ∀ x ∈ gd, ∀ b, ((∃ o, ev e x = some (.ptr b o)) ∨ ∃ o n c, ev e x = some (.sl b o n c)) → H'.bk b = H.bk b
  | [], _, x, hx, _, _ => by cases hx
  | y :: gd, h, x, hx, b, hb => by
    rcases List.mem_cons.1 hx with rfl | hx
    · have h1 := h.1
      rcases hb with ⟨o, hb⟩ | ⟨o, n, c, hb⟩ <;> rw [hb] at h1 <;> exact h1
    · exact guards_mem h.2 x hx b hb
theorem axEq_eq {x y : AX} (h : axEq x y = true) : x = y := by
  unfold axEq at h
  split at h <;> first | (simp only [beq_iff_eq] at h; rw [h]) | cases h

theorem Ready.p_t {D : Nat → Bool} {i : Nat} (hr : Ready l D i) {o : AO} (ho : l[i]? = some o) (hT : isT o = true) : pOf l D = i := by
  obtain ⟨h1, h2, h3⟩ := pOf_spec l D
  rcases Nat.lt_trichotomy (pOf l D) i with h | h | h
  · obtain ⟨k1, k2⟩ := h2 (Nat.lt_trans h hr.lt)
    have hlen : pOf l D < l.length := Nat.lt_trans h hr.lt
    have ha : l[pOf l D]? = some l[pOf l D] := List.getElem?_eq_getElem hlen
    have hf := free_cls (hr.ahead _ _ o h k2 ha ho)
    rw [isTat_eq ha] at k1
    unfold isT at k1 hT
    split at k1
    · rename_i e1
      split at hT
      · rename_i e2
        rw [e1, e2] at hf; exact hf.elim
      · cases hT
    · cases k1
  · exact h
  · have := h3 i h (by rw [isTat_eq ho]; exact hT)
    rw [hr.nd] at this; cases this

theorem pOf_with_t {D : Nat → Bool} {i : Nat} (hp : pOf l D = i) (hi : i < l.length) : i < pOf l (with_ D i) ∧ ∀ t, i < t → t < pOf l (with_ D i) → isTat l t = true → D t = true := by
  obtain ⟨h1, h2, h3⟩ := pOf_spec l (with_ D i)
  obtain ⟨g1, g2, g3⟩ := pOf_spec l D
  refine ⟨?_, fun t ht1 ht2 hT => ?_⟩
  · rcases Nat.lt_trichotomy (pOf l (with_ D i)) i with h | h | h
    · obtain ⟨k1, k2⟩ := h2 (by omega)
      have := g3 (pOf l (with_ D i)) (by omega) k1
      rw [with_ne D (by omega)] at k2; rw [k2] at this; cases this
    · obtain ⟨k1, k2⟩ := h2 (by omega)
      rw [h, with_same] at k2; cases k2
    · exact h
  · have := h3 t ht2 hT
    rw [with_ne D (by omega)] at this; exact this

theorem pOf_with {D : Nat → Bool} {i : Nat} (hT : isTat l i = false) : pOf l (with_ D i) = pOf l D := by
  unfold pOf
  congr 2
  funext t
  by_cases h : t = i
  · subst h; rw [hT]; rfl
  · rw [with_ne D h]

theorem bt_new (hs : Seq P NG l E HH vs) {i b : Nat} (hi : i < l.length) (h1 : (HH i).n ≤ b) (h2 : b < (HH (i + 1)).n) : btOf HH l.length b = i + 1 := by
  obtain ⟨k1, k2, k3⟩ := btOf_spec HH l.length b
  have h3 := k3 (i + 1) hi h2
  rcases Nat.lt_or_ge (btOf HH l.length b) (i + 1) with h | h
  · have hb := k2 (Nat.lt_of_lt_of_le h2 (hs.mon hi (Nat.le_refl _)).n)
    have := (hs.mon (show btOf HH l.length b ≤ i by omega) (Nat.le_of_lt hi)).n
    omega
  · omega

theorem bt_old (hs : Seq P NG l E HH vs) {i b : Nat} (hi : i ≤ l.length) (h : b < (HH i).n) : btOf HH l.length b ≤ i := (btOf_spec HH l.length b).2.2 i hi h
theorem bt_lt (hs : Seq P NG l E HH vs) {b : Nat} (h : b < (HH l.length).n) : b < (HH (btOf HH l.length b)).n := (btOf_spec HH l.length b).2.1 h
theorem bt_ge (hs : Seq P NG l E HH vs) {i b : Nat} (hi : i ≤ l.length) (h1 : (HH i).n ≤ b) (h : b < (HH l.length).n) : i < btOf HH l.length b := by
  rcases Nat.lt_or_ge i (btOf HH l.length b) with q | q
  · exact q
  · have := bt_lt hs h
    have := (hs.mon q hi).n
    omega

theorem Ready.between {D : Nat → Bool} {i : Nat} (hr : Ready l D i) {o : AO} (ho : l[i]? = some o) (hq : match clsOf o with | .q => True | _ => False) : i < pOf l D ∧ ∀ t, i ≤ t → t < pOf l D → isTat l t = false := by
  obtain ⟨h1, h2, h3⟩ := pOf_spec l D
  have hcq : clsOf o = .q := by
    cases hc : clsOf o <;> rw [hc] at hq <;> first | rfl | exact hq.elim
  have hlt : i < pOf l D := by
    rcases Nat.lt_trichotomy (pOf l D) i with h | h | h
    · obtain ⟨k1, k2⟩ := h2 (Nat.lt_trans h hr.lt)
      have hlen : pOf l D < l.length := Nat.lt_trans h hr.lt
      have ha : l[pOf l D]? = some l[pOf l D] := List.getElem?_eq_getElem hlen
      have hf := free_cls (hr.ahead _ _ o h k2 ha ho)
      rw [isTat_eq ha] at k1
      unfold isT at k1
      split at k1
      · rename_i e1
        rw [e1, hcq] at hf; exact hf.elim
      · cases k1
    · obtain ⟨k1, _⟩ := h2 (by rw [h]; exact hr.lt)
      rw [h, isTat_eq ho] at k1
      unfold isT at k1; rw [hcq] at k1; cases k1
    · exact h
  refine ⟨hlt, fun t ht1 ht2 => ?_⟩
  cases hT : isTat l t with
  | false => rfl
  | true =>
    have hD := h3 t ht2 hT
    rcases Nat.lt_or_ge i t with q | q
    · have hlen : t < l.length := by omega
      have ha : l[t]? = some l[t] := List.getElem?_eq_getElem hlen
      have hf := free_cls (hr.behind i t o _ q hr.nd hD ho ha)
      rw [isTat_eq ha] at hT
      unfold isT at hT
      split at hT
      · rename_i e1
        rw [hcq, e1] at hf; exact hf.elim
      · cases hT
    · have : t = i := by omega
      subst this
      rw [isTat_eq ho] at hT
      unfold isT at hT; rw [hcq] at hT; cases hT


theorem heapD_t (hs : Seq P NG l E HH vs) {D : Nat → Bool} {i : Nat} (hi : i < l.length) (hp : pOf l D = i) {b : Nat} (hb : b < (HH i).n) : (heapD l HH D).bk b = (HH i).bk b := by
  show (HH (max (pOf l D) (btOf HH l.length b))).bk b = _
  have := bt_old hs (Nat.le_of_lt hi) hb
  rw [hp, Nat.max_eq_left this]

theorem heapD_q (hs : Seq P NG l E HH vs) {D : Nat → Bool} {i : Nat} (hi : i < l.length) (hp : i < pOf l D) (hT : ∀ t, i ≤ t → t < pOf l D → isTat l t = false) {b : Nat} (hb : b < (HH i).n) : (heapD l HH D).bk b = (HH i).bk b := by
  show (HH (max (pOf l D) (btOf HH l.length b))).bk b = _
  have := bt_old hs (Nat.le_of_lt hi) hb
  rw [Nat.max_eq_left (by omega)]
  exact hs.flat (Nat.le_of_lt hp) (pOf_spec l D).1 hT hb

theorem heapD_wf (hs : Seq P NG l E HH vs) (h0 : Wf (HH 0)) (D : Nat → Bool) : Wf (heapD l HH D) := by
  intro b hb
  have hb' : (HH l.length).n ≤ b := hb
  have hmax : max (pOf l D) (btOf HH l.length b) ≤ l.length := by
    have := (pOf_spec l D).1; have := (btOf_spec HH l.length b).1; omega
  have hm := hs.mon (Nat.zero_le _) hmax
  exact hm.wf h0 b (Nat.le_trans (hs.mon hmax (Nat.le_refl _)).n hb')

theorem heapD_mon (hs : Seq P NG l E HH vs) (h0 : Wf (HH 0)) (D : Nat → Bool) : Mon (HH 0) (heapD l HH D) := by
  refine ⟨(hs.mon (Nat.zero_le _) (Nat.le_refl _)).n, fun b hb k hk => ?_, fun _ => heapD_wf hs h0 D⟩
  have hmax : max (pOf l D) (btOf HH l.length b) ≤ l.length := by
    have := (pOf_spec l D).1; have := (btOf_spec HH l.length b).1; omega
  exact (hs.mon (Nat.zero_le _) hmax).old b hb k hk

structure Step1 (NG : Nat) (l : List AO) (HH : Nat → AH) (D : Nat → Bool) (i : Nat) (ρ : Rho) (w : World) (H1 H1' : AH) : Prop where
  n : H1.n = (HH i).n
  n' : H1'.n = (HH (i + 1)).n
  rel : RelH NG ρ H1 w
  agree : ∀ b, b < (HH i).n → H1.bk b = (heapD l HH D).bk b
  new : ∀ b, b < (HH (i + 1)).n → (heapD l HH (with_ D i)).bk b = H1'.bk b
  rest : ∀ b, (HH (i + 1)).n ≤ b → b < (HH l.length).n → (heapD l HH (with_ D i)).bk b = (heapD l HH D).bk b

theorem step1_t (hs : Seq P NG l E HH vs) (h0 : Wf (HH 0)) {D : Nat → Bool} {i : Nat} (hr : Ready l D i) {o : AO} (ho : l[i]? = some o) (hT : isT o = true) {ρ : Rho} {w : World} (hrel : RelH NG ρ (heapD l HH D) w) : Step1 NG l HH D i ρ w (HH i) (HH (i + 1)) := by
  have hp := hr.p_t ho hT
  have hag : ∀ b, b < (HH i).n → (HH i).bk b = (heapD l HH D).bk b := fun b hb => (heapD_t hs hr.lt hp hb).symm
  obtain ⟨q1, q2⟩ := pOf_with_t hp hr.lt
  have hnT : ∀ t, i < t → t < pOf l (with_ D i) → isTat l t = false := by
    intro t h1 h2
    cases hq : isTat l t with
    | false => rfl
    | true =>
      have hD := q2 t h1 h2 hq
      have hlen : t < l.length := Nat.lt_of_lt_of_le h2 (pOf_spec l (with_ D i)).1
      have ha : l[t]? = some l[t] := List.getElem?_eq_getElem hlen
      have hf := free_cls (hr.behind i t o _ h1 hr.nd hD ho ha)
      rw [isTat_eq ha] at hq
      unfold isT at hq hT
      split at hq
      · rename_i e1
        split at hT
        · rename_i e2
          rw [e1, e2] at hf; exact hf.elim
        · cases hT
      · cases hq
  have hple := (pOf_spec l (with_ D i)).1
  refine ⟨rfl, rfl, hrel.view ((hs.mon (Nat.zero_le _) (Nat.le_of_lt hr.lt)).wf h0) (fun b r _ hb => hag b hb), hag, ?_, ?_⟩
  · intro b hb
    show (HH (max (pOf l (with_ D i)) (btOf HH l.length b))).bk b = _
    have hbt := bt_old hs hr.lt hb
    rw [Nat.max_eq_left (by omega)]
    exact hs.flat q1 hple (fun t h1 h2 => hnT t h1 h2) hb
  · intro b hb1 hb2
    show (HH (max (pOf l (with_ D i)) (btOf HH l.length b))).bk b = (HH (max (pOf l D) (btOf HH l.length b))).bk b
    have hbt := bt_ge hs hr.lt hb1 hb2
    rw [hp, Nat.max_eq_right (show i ≤ btOf HH l.length b by omega)]
    rcases Nat.lt_or_ge (btOf HH l.length b) (pOf l (with_ D i)) with h | h
    · rw [Nat.max_eq_left (by omega)]
      exact hs.flat (by omega) hple (fun t h1 h2 => hnT t (by omega) h2) (bt_lt hs hb2)
    · rw [Nat.max_eq_right h]

theorem step1_q (hs : Seq P NG l E HH vs) (h0 : Wf (HH 0)) {D : Nat → Bool} {i : Nat} (hr : Ready l D i) {o : AO} (ho : l[i]? = some o) (hq : clsOf o = .q) {ρ : Rho} {w : World} (hrel : RelH NG ρ (heapD l HH D) w) : Step1 NG l HH D i ρ w (HH i) (HH (i + 1)) := by
  obtain ⟨hp, hT⟩ := hr.between ho (by rw [hq]; trivial)
  have hag : ∀ b, b < (HH i).n → (HH i).bk b = (heapD l HH D).bk b := fun b hb => (heapD_q hs hr.lt hp hT hb).symm
  have hTi : isTat l i = false := hT i (Nat.le_refl _) hp
  have hw := pOf_with (l := l) (D := D) hTi
  refine ⟨rfl, rfl, hrel.view ((hs.mon (Nat.zero_le _) (Nat.le_of_lt hr.lt)).wf h0) (fun b r _ hb => hag b hb), hag, ?_, ?_⟩
  · intro b hb
    show (HH (max (pOf l (with_ D i)) (btOf HH l.length b))).bk b = _
    have hbt := bt_old hs hr.lt hb
    rw [hw, Nat.max_eq_left (by omega)]
    exact hs.flat hp (pOf_spec l D).1 (fun t h1 h2 => hT t (by omega) h2) hb
  · intro b hb1 hb2
    show (HH (max (pOf l (with_ D i)) (btOf HH l.length b))).bk b = (HH (max (pOf l D) (btOf HH l.length b))).bk b
    rw [hw]

theorem step1_p (hs : Seq P NG l E HH vs) (h0 : Wf (HH 0)) {D : Nat → Bool} {i : Nat} (hr : Ready l D i) {o : AO} (ho : l[i]? = some o) (hT : isT o = false) {ρ : Rho} {w : World} (hrel : RelH NG ρ (heapD l HH D) w) (H1' : AH)
    (hn : H1'.n = (HH (i + 1)).n) (hold : ∀ b, b < (HH i).n → H1'.bk b = (heapD l HH D).bk b) (hnew : ∀ b, (HH i).n ≤ b → b < (HH (i + 1)).n → (heapD l HH D).bk b = H1'.bk b) :
    Step1 NG l HH D i ρ w ⟨(HH i).n, fun b => if b < (HH i).n then (heapD l HH D).bk b else none⟩ H1' := by
  have hTi : isTat l i = false := by rw [isTat_eq ho]; exact hT
  have hw := pOf_with (l := l) (D := D) hTi
  have heq : ∀ b, (heapD l HH (with_ D i)).bk b = (heapD l HH D).bk b := by
    intro b
    show (HH (max (pOf l (with_ D i)) (btOf HH l.length b))).bk b = (HH (max (pOf l D) (btOf HH l.length b))).bk b
    rw [hw]
  refine ⟨rfl, hn, hrel.view ?_ ?_, ?_, ?_, fun b _ _ => heq b⟩
  · intro b hb
    have hb' : (HH i).n ≤ b := hb
    simp only; rw [if_neg (by omega)]
  · intro b r _ hb
    have hb' : b < (HH i).n := hb
    simp only; rw [if_pos hb']
  · intro b hb
    simp only; rw [if_pos hb]
  · intro b hb
    rw [heq]
    rcases Nat.lt_or_ge b (HH i).n with h | h
    · exact (hold b h).symm
    · exact hnew b h hb

theorem Ready.load (hs : Seq P NG l E HH vs) {D : Nat → Bool} {i : Nat} (hr : Ready l D i) {o : AO} (ho : l[i]? = some o) {x : AX} (hx : clsOf o = .l x) (hxs : x ∈ xsOf o.op) {b ob : Nat} (hv : AM.ev (E i) x = some (.ptr b ob)) (hb : b < (HH i).n) :
    (heapD l HH D).bk b = (HH i).bk b := by
  show (HH (max (pOf l D) (btOf HH l.length b))).bk b = _
  have hbt := bt_old hs (Nat.le_of_lt hr.lt) hb
  have hbt' : b < (HH (btOf HH l.length b)).n := bt_lt hs (Nat.lt_of_lt_of_le hb (hs.mon (Nat.le_of_lt hr.lt) (Nat.le_refl _)).n)
  obtain ⟨p1, p2, p3⟩ := pOf_spec l D
  rcases Nat.lt_or_ge i (pOf l D) with hp | hp
  · rw [Nat.max_eq_left (by omega)]
    refine stays (Nat.le_of_lt hp) fun t h1 h2 => ?_
    cases hT : isTat l t with
    | false => exact hs.keeps_at (by omega) hT (Nat.lt_of_lt_of_le hb (hs.mon h1 (by omega)).n)
    | true =>
      have hlen : t < l.length := by omega
      have ha : l[t]? = some l[t] := List.getElem?_eq_getElem hlen
      have hne : t ≠ i := by
        intro e; subst e
        rw [isTat_eq ho] at hT
        unfold isT at hT; rw [hx] at hT; cases hT
      have hD := p3 t h2 hT
      have hf := free_cls (hr.behind i t o _ (by omega) hr.nd hD ho ha)
      rw [isTat_eq ha] at hT
      have hTt : clsOf l[t] = .t := by unfold isT at hT; split at hT <;> first | assumption | cases hT
      rw [hx, hTt] at hf
      obtain ⟨hg, hmid⟩ := hf
      obtain ⟨y, hy, hxy⟩ := List.any_eq_true.1 hg
      have := axEq_eq hxy; subst this
      rcases hs.step t _ ha with ⟨_, _, hh⟩ | ⟨_, _, _, hgd, _, _⟩
      · rw [hh]
      · refine guards_mem hgd x hy b (.inl ⟨ob, ?_⟩)
        rw [← hv]
        cases x with
        | c v => rfl
        | g n => rfl
        | t n =>
          obtain ⟨m1, m2⟩ := hmid n rfl
          have : ∀ k, i ≤ k → k ≤ t → AM.get (E k) n = AM.get (E i) n := by
            intro k hk1 hk2
            induction k with
            | zero => have : i = 0 := by omega
                      subst this; rfl
            | succ k ih =>
              by_cases e : i = k + 1
              · subst e; rfl
              · have hkl : k < l.length := by omega
                have hk : l[k]? = some l[k] := List.getElem?_eq_getElem hkl
                rw [hs.upd k _ hk, get_upd, ih (by omega) (by omega)]
                rw [if_neg]
                by_cases e2 : k = i
                · subst e2; rw [ho] at hk; cases hk; exact m2
                · have hmem : l[k] ∈ (l.drop (i + 1)).take (t - i - 1) := by
                    rw [List.mem_iff_getElem?]
                    refine ⟨k - (i + 1), ?_⟩
                    rw [List.getElem?_take, if_pos (by omega), List.getElem?_drop, ← hk]
                    congr 1; omega
                  simpa using List.all_eq_true.1 m1 _ hmem
          exact this t (by omega) (Nat.le_refl _)
  · have hq : max (pOf l D) (btOf HH l.length b) ≤ i := Nat.max_le.2 ⟨hp, hbt⟩
    refine (stays hq fun t h1 h2 => ?_).symm
    have hbt2 : b < (HH t).n := Nat.lt_of_lt_of_le hbt' (hs.mon (Nat.le_trans (Nat.le_max_right _ _) h1) (Nat.le_trans (Nat.le_of_lt h2) (Nat.le_of_lt hr.lt))).n
    have hlen : t < l.length := Nat.lt_trans h2 hr.lt
    cases hT : isTat l t with
    | false => exact hs.keeps_at hlen hT hbt2
    | true =>
      have ha : l[t]? = some l[t] := List.getElem?_eq_getElem hlen
      have hD : D t = false := by
        cases hD : D t with
        | false => rfl
        | true =>
          exfalso
          have hpt : pOf l D ≤ t := Nat.le_trans (Nat.le_max_left _ _) h1
          have hpl : pOf l D < l.length := by omega
          obtain ⟨k1, k2⟩ := p2 hpl
          have hne : pOf l D ≠ t := fun e => by rw [e, hD] at k2; cases k2
          have hpa : l[pOf l D]? = some l[pOf l D] := List.getElem?_eq_getElem hpl
          have hf := free_cls (hr.behind (pOf l D) t _ _ (by omega) k2 hD hpa ha)
          rw [isTat_eq hpa] at k1
          rw [isTat_eq ha] at hT
          unfold isT at k1 hT
          split at k1
          · rename_i e1
            split at hT
            · rename_i e2
              rw [e1, e2] at hf; exact hf
            · cases hT
          · cases k1
      have hf := free_cls (hr.ahead t _ o h2 hD ha ho)
      rw [isTat_eq ha] at hT
      have hTt : clsOf l[t] = .t := by unfold isT at hT; split at hT <;> first | assumption | cases hT
      rw [hx, hTt] at hf
      obtain ⟨hg, hmid⟩ := hf
      obtain ⟨y, hy, hxy⟩ := List.any_eq_true.1 hg
      have := axEq_eq hxy; subst this
      rcases hs.step t _ ha with ⟨_, _, hh⟩ | ⟨_, _, _, hgd, _, _⟩
      · rw [hh]
      · refine guards_mem hgd x hy b (.inl ⟨ob, ?_⟩)
        rw [← hv]
        cases x with
        | c v => rfl
        | g n => rfl
        | t n =>
          obtain ⟨m1, m2⟩ := hmid n rfl
          have : ∀ k, t ≤ k → k ≤ i → AM.get (E k) n = AM.get (E t) n := by
            intro k hk1 hk2
            induction k with
            | zero => have : t = 0 := by omega
                      subst this; rfl
            | succ k ih =>
              by_cases e : t = k + 1
              · subst e; rfl
              · have hkl : k < l.length := by have := hr.lt; omega
                have hk : l[k]? = some l[k] := List.getElem?_eq_getElem hkl
                rw [hs.upd k _ hk, get_upd, ih (by omega) (by omega)]
                rw [if_neg]
                by_cases e2 : k = t
                · subst e2; exact m2
                · have hmem : l[k] ∈ (l.drop (t + 1)).take (i - t - 1) := by
                    rw [List.mem_iff_getElem?]
                    refine ⟨k - (t + 1), ?_⟩
                    rw [List.getElem?_take, if_pos (by omega), List.getElem?_drop, ← hk]
                    congr 1; omega
                  simpa using List.all_eq_true.1 m1 _ hmem
          exact (this i (Nat.le_of_lt h2) (Nat.le_refl _)).symm


theorem Step1.go (hs : Seq P NG l E HH vs) (h0 : Wf (HH 0)) {D : Nat → Bool} {i : Nat} (hr : Ready l D i) {o : AO} (ho : l[i]? = some o) {e0 : Env} (he0 : E 0 = e0) {ρ0 ρ : Rho} {w0 w : World} {a : Act} {H1 H1' : AH}
    (hinv : Inv NG l HH vs e0 ρ0 w0 D ρ a.tmps w) (h0rel : RelH NG ρ0 (HH 0) w0) (h0fr : Fresh ρ0 (HH 0).n (HH l.length).n) (h1 : Step1 NG l HH D i ρ w H1 H1') {ρ' : Rho} {w' : World} {cv : Value} (ha : Adv ρ H1 w ρ' H1' w') (hrel' : RelH NG ρ' H1' w') (hv : VR ρ' (vs i) cv)
    {op : Oper} (hop : op.dst = o.d) (hdt : ∀ t, o.d = some t → t < a.tmps.size) : Inv NG l HH vs e0 ρ0 w0 (with_ D i) ρ' (a.put op.dst cv).tmps w' := by
  have hfr1 : Fresh ρ H1.n H1'.n := by
    rw [h1.n, h1.n']
    intro b hb1 hb2
    cases hq : ρ b with
    | none => rfl
    | some r =>
      rcases hinv.dom b r hq with h | ⟨j, hj, hjl, hj1, hj2⟩
      · have := h0fr b (Nat.le_trans (hs.mon (Nat.zero_le _) (Nat.le_of_lt hr.lt)).n hb1) (Nat.lt_of_lt_of_le hb2 (hs.mon hr.lt (Nat.le_refl _)).n)
        rw [this] at h; cases h
      · have hne : j ≠ i := fun e => by subst e; rw [hr.nd] at hj; cases hj
        rcases Nat.lt_or_ge j i with q | q
        · have := (hs.mon (show j + 1 ≤ i from q) (Nat.le_of_lt hr.lt)).n; omega
        · have := (hs.mon (show i + 1 ≤ j by omega) (Nat.le_of_lt hjl)).n; omega
  have hag : ∀ b r, ρ b = some r → b < H1.n → H1.bk b = (heapD l HH D).bk b := fun b r _ hb => h1.agree b (by rw [← h1.n]; exact hb)
  have hdom' : ∀ b r, ρ' b = some r → ρ b = some r ∨ ((HH i).n ≤ b ∧ b < (HH (i + 1)).n) := by
    intro b r hb
    obtain ⟨B, o', x⟩ := r
    rcases ha.new b B o' x hb with h | ⟨h2, h3, _⟩
    · exact .inl h
    · rw [h1.n] at h2; rw [h1.n'] at h3; exact .inr ⟨h2, h3⟩
  have hlen : ∀ b r, ρ b = some r → b < (HH l.length).n ∨ (ρ0 b = some r ∧ (HH l.length).n ≤ b) := by
    intro b r hb
    rcases hinv.dom b r hb with h | ⟨j, _, hjl, _, hj2⟩
    · rcases Nat.lt_or_ge b (HH l.length).n with q | q
      · exact .inl q
      · exact .inr ⟨h, q⟩
    · exact .inl (Nat.lt_of_lt_of_le hj2 (hs.mon hjl (Nat.le_refl _)).n)
  have hwf' := heapD_wf hs h0 (with_ D i)
  have hwfD := heapD_wf hs h0 D
  have hrel2 : RelH NG ρ' (heapD l HH (with_ D i)) w' := by
    refine hinv.rel.widen h1.rel hag ha hrel' hfr1 hwf' (fun b r _ hb => h1.new b (by rw [← h1.n']; exact hb)) (fun b r hb hb2 => ?_)
    rw [h1.n'] at hb2
    rcases hlen b r hb with h | ⟨_, h⟩
    · exact h1.rest b hb2 h
    · rw [hwf' b h, hwfD b h]
  have hfrw : Fr ρ (heapD l HH D) w w' := by
    refine ⟨ha.fr.os, ha.fr.tape, ha.fr.output, ha.fr.size, fun B hB hqt => ha.fr.heap B hB fun b3 o3 x3 k3 hb3 hk3 => ?_⟩
    have hlt3 : b3 < H1.n := by
      rcases Nat.lt_or_ge b3 H1.n with q3 | q3
      · exact q3
      · rw [h1.rel.wf b3 q3] at hk3; cases hk3
    rw [hag b3 _ hb3 hlt3] at hk3
    exact hqt b3 o3 x3 k3 hb3 hk3
  have hadv' : Adv ρ0 (HH 0) w0 ρ' (heapD l HH (with_ D i)) w' := by
    refine ⟨hinv.adv.sub.trans ha.sub, ?_, heapD_mon hs h0 _, ?_⟩
    · intro b B o' x hb
      rcases hdom' b _ hb with h | ⟨h2, h3⟩
      · rcases hinv.adv.new b B o' x h with h4 | h4
        · exact .inl h4
        · exact .inr h4
      · refine .inr ⟨Nat.le_trans (hs.mon (Nat.zero_le _) (Nat.le_of_lt hr.lt)).n h2, Nat.lt_of_lt_of_le h3 (hs.mon hr.lt (Nat.le_refl _)).n, ?_⟩
        rcases ha.new b B o' x hb with h4 | ⟨_, _, h4⟩
        · have := hfr1 b (by rw [h1.n]; exact h2) (by rw [h1.n']; exact h3)
          rw [this] at h4; cases h4
        · rcases Nat.lt_or_ge B w0.heap.size with hB | hB
          · right
            intro hqt
            rcases h4 with h4 | h4
            · have := hinv.adv.fr.size; omega
            · refine h4 fun b3 o3 x3 k3 hb3 hk3 => ?_
              have hlt3 : b3 < H1.n := by
                rcases Nat.lt_or_ge b3 H1.n with q3 | q3
                · exact q3
                · rw [h1.rel.wf b3 q3] at hk3; cases hk3
              rw [hag b3 _ hb3 hlt3] at hk3
              exact hinv.adv.quiet h0rel (show Fresh ρ0 (HH 0).n (heapD l HH D).n from h0fr) hB hqt b3 o3 x3 k3 hb3 hk3
          · exact .inl hB
    · refine ⟨hfrw.os.trans hinv.adv.fr.os, hfrw.tape.trans hinv.adv.fr.tape, hfrw.output.trans hinv.adv.fr.output, Nat.le_trans hinv.adv.fr.size hfrw.size, fun B hB hqt => ?_⟩
      rw [hfrw.heap B (Nat.lt_of_lt_of_le hB hinv.adv.fr.size) (hinv.adv.quiet h0rel (show Fresh ρ0 (HH 0).n (heapD l HH D).n from h0fr) hB hqt), hinv.adv.fr.heap B hB hqt]
  refine ⟨?_, hrel2, ?_, hadv'⟩
  · intro t x hx
    rw [hop]
    by_cases hd : o.d = some t
    · have hget := get_envOf_some e0 vs (with_ D i) t l 0 i o ho hd (by simp [with_same]) (fun j o' k1 k2 => hr.uniq j i o' o t k1 ho k2 hd)
      rw [hget] at hx
      simp only [Nat.zero_add, Option.some.injEq] at hx; subst hx
      refine ⟨cv, ?_, hv⟩
      rw [hd]; simp only [Act.put]
      rw [Array.getElem?_setIfInBounds_self, if_pos (hdt t hd)]
    · have hget := get_envOf_congr e0 vs (with_ D i) D t l 0 (fun j o' k1 k2 => by
        have : j ≠ i := fun e => by subst e; rw [ho] at k1; cases k1; exact hd k2
        rw [Nat.zero_add, with_ne D this])
      rw [hget] at hx
      obtain ⟨u, hu, hr'⟩ := hinv.env t x hx
      refine ⟨u, ?_, hr'.mono ha.sub⟩
      cases hd2 : o.d with
      | none => exact hu
      | some s =>
        simp only [Act.put]
        rw [Array.getElem?_setIfInBounds_ne (fun e => hd (by rw [hd2, e]))]; exact hu
  · intro b r hb
    rcases hdom' b r hb with h | ⟨h2, h3⟩
    · rcases hinv.dom b r h with h4 | ⟨j, hj, h5⟩
      · exact .inl h4
      · refine .inr ⟨j, ?_, h5⟩
        by_cases e : j = i
        · subst e; exact with_same D j
        · rw [with_ne D e]; exact hj
    · exact .inr ⟨i, with_same D i, hr.lt, h2, h3⟩

end
end Go.Proofs.YtcibjklpaljadaaGreat.AM
