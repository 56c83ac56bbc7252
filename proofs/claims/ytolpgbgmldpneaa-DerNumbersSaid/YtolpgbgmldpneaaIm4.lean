/- An ideal machine for the model's programs: its values are trees, its operations are told by plain functions; what it answers the model's machine does (part 4). It bears no condition. -/
import Derived.Test.YtolpgbgmldpneaaIm3
import Derived.FnData
namespace Go.Im
open Go
set_option linter.unusedVariables false
set_option linter.unusedSimpArgs false
set_option linter.unnecessarySimpa false

/-! ### The ideal machine with continuations: what hangs on symbols comes to the head -/
/-- What a cell should be. -/
inductive LT
  | b | i (k : IntKind) | s | sl
def isOf : LT → IV → Bool
  | .b, .bool _ => true
  | .i k, .int k' _ => decide (k = k')
  | .s, .str _ => true
  | .sl, .fsl .. => true
  | _, _ => false
def boolOf : IV → Bool
  | .bool b => b
  | _ => false
def intOf : IV → Int
  | .int _ n => n
  | _ => 0
def strOf : IV → List UInt8
  | .str s => s
  | _ => []
def nlOf : IV → Option Bool
  | .fsl nl _ _ _ => nl
  | _ => none
def clOf : IV → Bool
  | .fsl _ cl _ _ => cl
  | _ => false
def szOf : IV → Nat
  | .fsl _ _ z _ => z
  | _ => 0
def rowL : IV → List IV
  | .fsl _ _ _ l => l
  | _ => []
def mkOf : LT → IV → IV
  | .b, v => .bool (boolOf v)
  | .i k, v => .int k (intOf v)
  | .s, v => .str (strOf v)
  | .sl, v => .fsl (nlOf v) (clOf v) (szOf v) (rowL v)
def isBytes : List IV → Bool
  | [] => true
  | .int .u8 _ :: xs => isBytes xs
  | _ => false
def toBytes : List IV → List UInt8
  | [] => []
  | x :: xs => UInt8.ofNat (intOf x).toNat :: toBytes xs
section
variable {β : Type}
def oel {α : Type} (x : Option α) (k : α → Option β) (kf : Option β) : Option β := match x with
  | some v => k v
  | none => kf
def liftK (x : R) (k : IV → List Blk → Kd → Option β) (kf : Option β) : Option β := match x with
  | some (v, T, d) => k v T d
  | none => kf

noncomputable section
variable (P : Program) (H : Hint)

def ibinK (op : BinOp) (k k' : IntKind) (x y : Int) (kt : IV → Option β) (kf : Option β) : Option β :=
  match op with
  | .shl => cond (decide (0 ≤ y)) (kt (.int k (k.wrap (x * 2 ^ (min y.toNat k.bits))))) kf
  | .shr => cond (decide (0 ≤ y)) (kt (.int k (x.fdiv (2 ^ (min y.toNat k.bits))))) kf
  | .quo => if k = k' then cond (decide (y = 0)) kf (kt (.int k (k.wrap (x.tdiv y)))) else kf
  | .rem => if k = k' then cond (decide (y = 0)) kf (kt (.int k (x.tmod y))) else kf
  | op => oel (ibin op k k' x y) kt kf

def nilEqK (T : List Blk) (x : IV) (kt : Bool → Option β) (kf : Option β) : Option β :=
  match x with
  | .fsl (some t) _ _ _ => kt t
  | x => match slc T x with
    | some (_, _, _, l) => cond (decide (0 < l.length)) (kt false) kf
    | none => kf

def binSK (T : List Blk) (op : BinOp) (t : TypeId) (x y : IV) (kt : IV → Option β) (kf : Option β) : Option β :=
  match P.underlying t with
  | some (.slice _) => match op with
    | .eql => (match isNil y with
      | true => nilEqK T x (fun b => kt (.bool b)) kf
      | false => match isNil x with
        | true => nilEqK T y (fun b => kt (.bool b)) kf
        | false => kf)
    | .neq => (match isNil y with
      | true => nilEqK T x (fun b => kt (.bool !b)) kf
      | false => match isNil x with
        | true => nilEqK T y (fun b => kt (.bool !b)) kf
        | false => kf)
    | _ => kf
  | _ => kf

def binK (T : List Blk) (op : BinOp) (t : TypeId) (x y : IV) (kt : IV → Option β) (kf : Option β) : Option β :=
  match x, y with
  | .int k a, .int k' b => ibinK op k k' a b kt kf
  | .str a, .str b => match op with
    | .add => cond (decide (((a.length + b.length : Nat) : Int) > IntKind.i64.max)) kf (kt (.str (a ++ b)))
    | op => oel (sbin op a b) kt kf
  | .bool a, .bool b => oel (abin P T op t (.bool a) (.bool b)) kt kf
  | .agg a, .agg b => oel (abin P T op t (.agg a) (.agg b)) kt kf
  | x, y => binSK P T op t x y kt kf

def leafT (t : TypeId) : Option LT := match P.underlying t with
  | some .bool => some .b
  | some (.int k) => some (.i k)
  | some .string => some .s
  | some (.slice _) => some .sl
  | _ => none
def cellTys : Nat → TypeId → Option (List LT)
  | 0, _ => none
  | n + 1, t => match P.underlying t with
    | some (.struct fs) => fs.toList.foldr (fun f r => match cellTys n f.type, r with | some a, some b => some (a ++ b) | _, _ => none) (some [])
    | some (.array m e) => match cellTys n e with
      | some a => some ((List.replicate m a).flatten)
      | none => none
    | _ => (leafT P t).map fun u => [u]
def testAll : List LT → Nat → List IV → Bool
  | [], _, _ => true
  | u :: us, j, cs => isOf u (nthD cs j) && testAll us (j + 1) cs
def mkAll : List LT → Nat → List IV → List IV
  | [], _, _ => []
  | u :: us, j, cs => mkOf u (nthD cs j) :: mkAll us (j + 1) cs
/-- A value of a type out of cells, each laid open as its type says. -/
def etaK (t : TypeId) (cs : List IV) (kt : IV → Option β) : Option β :=
  match cellTys P 9 t with
  | some us => match Nat.beq us.length (sizeAt P t), isAggT P t with
    | true, some true => cond (testAll us 0 cs) (kt (.agg (mkAll us 0 cs))) none
    | true, some false => (match us with
      | [u] => cond (isOf u (nthD cs 0)) (kt (mkOf u (nthD cs 0))) none
      | _ => none)
    | _, _ => none
  | none => oel (pack P t (cs.take (sizeAt P t))) kt none

def loadK (T : List Blk) (t : TypeId) (a : IV) (kt : IV → List Blk → Kd → Option β) (kf : Option β) : Option β :=
  match a with
  | .ep b ver i off => match rowOf T b ver with
    | some (_, l) => cond (decide (i < l.length)) (etaK P t ((nthD l i).cells.drop off) fun v => kt v T (.rd [b])) kf
    | none => kf
  | .fp cs => etaK P t cs fun v => kt v T (.rd [])
  | a => liftK (aload P T t a) kt kf

def storeK (T : List Blk) (t : TypeId) (a x : IV) (kt : IV → List Blk → Kd → Option β) (kf : Option β) : Option β :=
  match a with
  | .ep b ver i off => if x.cells.length = sizeAt P t ∧ 0 < x.cells.length then (match cellsOK x.cells with
    | false => kf
    | true => match own? T b ver with
        | some (e, l) => match frz T x with
          | some (y, bs) => match cellsOK y.cells with
            | false => kf
            | true => if bs.contains b then kf else if off + y.cells.length ≤ e ∧ 0 < y.cells.length then cond (decide (i < l.length))
              (kt unit ((shut T bs).set b (.row ver false e (l.set i (setEl (nthD l i) off y)))) (.ef (b :: bs))) kf else kf
          | none => kf
        | none => kf) else kf
  | a => liftK (astore P T t a x) kt kf

def indexAddrK (T : List Blk) (t : TypeId) (x ix : IV) (kt : IV → List Blk → Kd → Option β) (kf : Option β) : Option β :=
  match ix with
  | .int _ i => match P.underlying t with
    | some (.slice e) => if sizeAt P e = 0 then kf else (match x with
      | .osl b ver => match rowOf T b ver with
        | some (z, l) => if z = sizeAt P e then cond (decide (0 ≤ i ∧ i < l.length)) (kt (.ep b ver i.toNat 0) T (.rd [b])) kf else kf
        | none => kf
      | .vsl b ver lo n => match rowOf T b ver with
        | some (z, _) => if z = sizeAt P e then cond (decide (0 ≤ i ∧ i < n)) (kt (.ep b ver (lo + i.toNat) 0) T (.rd [b])) kf else kf
        | none => kf
      | .vsv b lo n => match T[b]? with
        | some (.var ..) => if 1 = sizeAt P e then cond (decide (0 ≤ i ∧ i < n)) (kt (.ptr b (lo + i.toNat)) T (.rd [b])) kf else kf
        | _ => kf
      | .fsl _ _ z l => cond (decide (z = sizeAt P e ∧ 0 ≤ i ∧ i < l.length)) (kt (.fp (nthD l i.toNat).cells) T (.rd [])) kf
      | _ => kf)
    | some (.array len e) => if sizeAt P e = 0 then kf else cond (decide (0 ≤ i ∧ i < len)) (liftK (amoved T (i.toNat * sizeAt P e) x) kt kf) kf
    | _ => kf
  | _ => kf

def indexK (t : TypeId) (x ix : IV) (kt : IV → Option β) (kf : Option β) : Option β :=
  match ix with
  | .int _ i => match P.underlying t, x with
    | some .string, .str s => cond (decide (0 ≤ i ∧ i < s.length)) (kt (.int .u8 ((s.getD i.toNat 0).toNat : Int))) kf
    | some (.array len e), .agg l => cond (decide (0 ≤ i ∧ i < len)) (etaK P e (l.drop (i.toNat * sizeAt P e)) kt) kf
    | _, _ => kf
  | _ => kf

/-- A frozen slice, cut to its length. -/
def sliceMK (T : List Blk) (t e : TypeId) (x : IV) (lo hi : Option IV) (mv : IV) (kt : IV → List Blk → Kd → Option β) (kf : Option β) : Option β :=
  match x, hi, mv with
  | .fsl nl cl z xs, some (.int k h), .int k' m => if sizeAt P e = 0 then none else (match bnd 0 lo with
    | some l => cond (decide (0 ≤ l ∧ l ≤ h ∧ h ≤ xs.length ∧ m = h)) (cond (decide (z = sizeAt P e ∨ xs.length = 0)) (kt (.fsl nl true z ((xs.drop l.toNat).take (h.toNat - l.toNat))) T (.rd [])) none) none
    | none => none)
  | x, hi, mv => liftK (aslice P T t x lo hi (some mv)) kt kf
def sliceK (T : List Blk) (t : TypeId) (x : IV) (lo hi mx : Option IV) (kt : IV → List Blk → Kd → Option β) (kf : Option β) : Option β :=
  match P.underlying t with
  | some .string => match x with
    | .str s => match mx, bnd 0 lo, bnd s.length hi with
      | none, some l, some h => cond (decide (0 ≤ l ∧ l ≤ h ∧ h ≤ s.length)) (kt (.str ((s.drop l.toNat).take (h.toNat - l.toNat))) T (.rd [])) kf
      | _, _, _ => kf
    | _ => kf
  | some (.slice e) => match mx with
    | some mv => sliceMK P T t e x lo hi mv kt kf
    | none => if sizeAt P e = 0 then kf else (match slcLen T x with
      | some n => match bnd 0 lo, bnd n hi with
        | some l, some h => cond (decide (0 ≤ l ∧ l ≤ h ∧ h ≤ n)) (match x with
              | .fsl nl cl z xs => cond (decide (z = sizeAt P e ∨ xs.length = 0)) (kt (.fsl nl (cl && hi.isNone) z ((xs.drop l.toNat).take (h.toNat - l.toNat))) T (.rd [])) none
              | .osl b ver => match rowOf T b ver with
                | some (z, _) => if z = sizeAt P e then kt (if lo.isNone && hi.isNone then .osl b ver else .vsl b ver l.toNat (h.toNat - l.toNat)) T (.rd [b]) else none
                | none => none
              | .vsl b ver lo' _ => match rowOf T b ver with
                | some (z, _) => if z = sizeAt P e then kt (.vsl b ver (lo' + l.toNat) (h.toNat - l.toNat)) T (.rd [b]) else none
                | none => none
              | .vsv b lo' _ => if sizeAt P e = 1 then kt (.vsv b (lo' + l.toNat) (h.toNat - l.toNat)) T (.rd [b]) else none
              | _ => none) kf
        | _, _ => kf
      | none => kf)
  | _ => liftK (aslice P T t x lo hi mx) kt kf

def makeK (T : List Blk) (t : TypeId) (l c : Operand) (n : IV) (kt : IV → List Blk → Kd → Option β) (kf : Option β) : Option β :=
  match elemOf P t, n with
  | some e, .int _ n => match (match l, c with | .tmp a, .tmp b => a == b | .const (.int _ a), .const (.int _ b) => a == b | _, _ => false), infoOf P e with
    | true, some (z, size, bytes) => (match cellsOK (zcells z) && Nat.beq (zcells z).length size with
        | true => cond (decide (0 ≤ n ∧ n * bytes ≤ roomB ∧ n ≤ 9223372036854775807)) (kt (.osl T.length 0) (T ++ [.row 0 false size (List.replicate n.toNat (ofVal z))]) (.ef [T.length])) kf
        | false => kf)
    | _, _ => kf
  | _, _ => kf

def anewK (T : List Blk) (zv : Value) (size bytes : Nat) (u : TypeId) (x : IV) (kt : List IV → Option β) (kf : Option β) : Option β :=
  match P.underlying u, x with
  | some (.slice _), x => (match slc T x with
    | some (_, _, z, l) => cond (decide (z = size ∨ l.length = 0)) (kt l) kf
    | none => kf)
  | some .string, .str b => if size = 1 then kt (u8s b) else kf
  | some (.int _), .int _ n => (match cellsOK (zcells zv) with
    | true => cond (decide (0 ≤ n ∧ n * bytes ≤ roomB ∧ n ≤ 9223372036854775807)) (kt (List.replicate n.toNat (ofVal zv))) kf
    | false => kf)
  | _, _ => kf

def appendK (T : List Blk) (ts : List TypeId) (s x : IV) (kt : IV → List Blk → Kd → Option β) (kf : Option β) : Option β :=
  match ts with
  | [t, u] => match elemOf P t with
    | some e => match infoOf P e with
      | some (zv, size, bytes) =>
        anewK P T zv size bytes u x (fun new => match Nat.beq (zcells zv).length size && Nat.blt 0 size with
          | false => kf
          | true => match s with
            | .osl b ver => match own? T b ver with
              | some (z, l) => if z = size then cond (decide ((l.length + new.length) * bytes ≤ roomB ∧ l.length + new.length ≤ maxLen))
                  (kt (.osl b (ver + 1)) (T.set b (.row (ver + 1) false z (l ++ new))) (.ef [b])) kf else kf
              | none => kf
            | .fsl nl cl z l => (match nilOrCut (.fsl nl cl z l) with
              | true => cond (decide ((z = size ∨ l.length = 0) ∧ (l.length = 0 ∨ 0 < new.length) ∧ (l.length + new.length) * bytes ≤ roomB ∧ l.length + new.length ≤ maxLen))
                  (kt (.osl T.length 0) (T ++ [Blk.row 0 false size (l ++ new)]) (.ef [T.length])) kf
              | false => kf)
            | _ => kf) kf
      | none => kf
    | none => kf
  | _ => kf

def convK (T : List Blk) (src dst : TypeId) (x : IV) (kt : IV → List Blk → Kd → Option β) (kf : Option β) : Option β :=
  match P.underlying src, P.underlying dst with
  | some (.slice e), some .string => match P.underlying e with
    | some (.int .u8) => (match slc T x with
      | some (_, _, z, l) => cond (decide (z = 1 ∨ l.length = 0) && isBytes l) (kt (.str (toBytes l)) T (.rd (refs x))) none
      | none => liftK (aconv P T src dst x) kt kf)
    | _ => none
  | a, b => liftK (aconv P T src dst x) kt kf

def mergeK0 (c : Bool) (a b : Option IV) (kt : IV → Option β) (kf : Option β) : Option β :=
  match a, b with
  | some (.bool x), some (.bool y) => kt (.bool (cond c x y))
  | some (.int k x), some (.int k' y) => if k = k' then kt (.int k (cond c x y)) else cond c (oel a kt kf) (oel b kt kf)
  | a, b => cond c (oel a kt kf) (oel b kt kf)
/-- Was a value's operation passed over? -/
def skipped : Option IV → Bool
  | some (.tup []) => true
  | _ => false
/-- One of two values; what was passed over is not asked for. -/
def mergeK (c : Bool) (a b : Option IV) (kt : IV → Option β) (kf : Option β) : Option β :=
  match skipped a, skipped b with
  | true, _ => cond c none (oel b kt kf)
  | false, true => cond c (oel a kt kf) none
  | false, false => mergeK0 c a b kt kf

/-- The same; an operation with a guard may be asked for what was passed over. -/
def mergeC (ch : List (Nat × Bool)) (c : Bool) (a b : Option IV) (kt : IV → Option β) (kf : Option β) : Option β := match ch with
  | [] => mergeK c a b kt kf
  | _ => mergeK0 c a b kt kf
def isUnit : IV → Bool
  | .tup [] => true
  | _ => false

abbrev CallK (β : Type) := FuncId → List IV → List Blk → (IV → List Blk → Option β) → Option β

def doCallK (call : CallK β) (T : List Blk) (f : FuncId) (as : List IV) (kt : IV → List Blk → Kd → Option β) : Option β :=
  match handed T (H.mv f) as with
  | [] => match lendL (fun _ => none) T as with
    | none => none
    | some (as', lent) => call f as' [] fun r T1 => match H.keep f with
        | false => match frz T1 r with
          | none => none
          | some (r', _) => match scalar r, lent with
            | true, _ => kt r' T (.rd lent)
            | false, [] => kt r' T (.rd [])
            | false, _ => kt r' (shut T lent) (.ef lent)
        | true => match lent with
          | [] => kt (back (fbk [] T.length) (vbk T []) r) (T ++ backBs (fbk [] T.length) (vbk T []) 0 T1) (.ef ((List.range T1.length).map (T.length + ·)))
          | _ => kt (back (fbk [] T.length) (vbk T []) r) (shut T lent ++ backBs (fbk [] T.length) (vbk T []) 0 T1) (.ef (lent ++ (List.range T1.length).map (T.length + ·)))
  | hd => match lendL (idx hd) T as, hd.all (decide <| · < T.length) with
    | some (as', lent), true => call f as' (hd.map (renB false 0 (idx hd) T)) fun r T1 => match H.keep f with
        | false => match frz T1 r with
          | none => none
          | some (r', fr) => match scalar r && T1.all scalarB with
            | true => kt r' (putBack T hd (backBs (fbk hd T.length) (vbk T hd) 0 T1)) (.ef (hd ++ (List.range (T1.length - hd.length)).map (T.length + ·)))
            | false => kt r' (shut (putBack (shut T lent) hd (backBs (fbk hd T.length) (vbk T hd) 0 T1)) (fr.map (fbk hd T.length))) (.ef (hd ++ lent ++ (List.range (T1.length - hd.length)).map (T.length + ·)))
        | true => kt (back (fbk hd T.length) (vbk T hd) r) (putBack (shut T lent) hd (backBs (fbk hd T.length) (vbk T hd) 0 T1)) (.ef (hd ++ lent ++ (List.range (T1.length - hd.length)).map (T.length + ·)))
    | _, _ => none

def builtinK (T : List Blk) (b : Builtin) (ts : List TypeId) (vs : List IV) (kt : IV → List Blk → Kd → Option β) (kf : Option β) : Option β :=
  match b, vs with
  | .append, [x, y] => appendK P T ts x y kt kf
  | b, vs => liftK (abuiltin P T b ts vs) kt kf

/-- One operation; the last way out is taken where it fails. -/
def opK (call : CallK β) (ops : List Oper) (ch : List (Nat × Bool)) (o : Oper) (s : St) (kt : IV → List Blk → Kd → Option β) (kf : Option β) : Option β :=
  match o.op with
  | .pick c a b => match ev H ch s c, whoSets ops c with
    | some (.bool t), some j => mergeC ch t (ev H ((j, true) :: ch) s a) (ev H ((j, false) :: ch) s b) (fun v => kt v s.bx (.rd [])) kf
    | some (.bool t), none => mergeC ch t (ev H ch s a) (ev H ch s b) (fun v => kt v s.bx (.rd [])) kf
    | _, _ => kf
  | .binOp op t x y _ => match ev H ch s x, ev H ch s y with
    | some a, some b => binK P s.bx op t a b (fun v => kt v s.bx (.rd (refs a ++ refs b))) kf
    | _, _ => kf
  | .convert src dst x => match ev H ch s x with
    | some x => convK P s.bx src dst x kt kf
    | none => kf
  | .load t a => match ev H ch s a with
    | some a => loadK P s.bx t a kt kf
    | none => kf
  | .store t a x => match ev H ch s a, ev H ch s x with
    | some a, some x => storeK P s.bx t a x kt kf
    | _, _ => kf
  | .indexAddr t x ix => match ev H ch s x, ev H ch s ix with
    | some x, some i => indexAddrK P s.bx t x i kt kf
    | _, _ => kf
  | .index t x ix => match ev H ch s x, ev H ch s ix with
    | some x, some i => indexK P t x i (fun v => kt v s.bx (.rd [])) kf
    | _, _ => kf
  | .slice t x lo hi mx => match ev H ch s x, optEv H ch s lo, optEv H ch s hi, optEv H ch s mx with
    | some x, some lo, some hi, some mx => sliceK P s.bx t x lo hi mx kt kf
    | _, _, _, _ => kf
  | .makeSlice t l c => match ev H ch s l with
    | some n => makeK P s.bx t l c n kt kf
    | none => kf
  | .call c => match evs H ch s c.args.toList with
    | some vs => match c.callee with
      | .builtin b => builtinK P s.bx b c.argTypes.toList vs kt kf
      | .value f => (match ev H ch s f with
        | some (.fn f cap) => (match Nat.beq f YID with
          | true => none
          | false => doCallK H call s.bx f (vs ++ cap) kt)
        | some (.yf b) => call YID (.yf b :: vs) s.bx fun v T => kt v T (.ef (List.range (s.bx.length + T.length)))
        | _ => none)
      | _ => kf
    | none => kf
  | op => liftK (aop P H (fun _ _ _ => none) ops ch o s) kt kf

def opGK (call : CallK β) (ops : List Oper) (ch : List (Nat × Bool)) (o : Oper) (s : St) (kt : IV → List Blk → Kd → Option β) (kf : Option β) : Option β :=
  opK P H call ops ch o s (fun v T d => match v with
    | .gd .. => kf
    | v => kt v T d) kf

/-- A guard's slot, once its condition is known. -/
def fixT (want : Bool) : IV → IV
  | .bool _ => .bool want
  | .gd j w _ (.bool _) => .gd j w true (.bool want)
  | x => x
def fixF (want : Bool) : IV → IV
  | .bool _ => .bool (!want)
  | .gd j w c (.bool b) => .gd j w c (.bool (cond c (!want) b))
  | x => x
def tmpOf : Operand → Option Tmp
  | .tmp t => some t
  | _ => none
def fixK {γ : Type} (tm : List IV) (d : Option Tmp) (f : IV → IV) (k : List IV → γ) : γ := match d with
  | some d => setK (f (nthD tm d)) tm d k
  | none => k tm

/-- Whether a guard holds, handed on; where that hangs on a guard of its own, that is asked first. -/
def condK {γ : Type} (want : Bool) (x : Option IV) (k : Option Bool → Option γ) : Option γ := match x with
  | some (.gd _ _ c (.bool b)) => k (some (c && (b == want)))
  | some (.gd _ _ c _) => cond c none (k (some false))
  | x => k (condOf want x)
def aopsK (call : CallK β) (ops : List Oper) : List Oper → Nat → St → Log → (St → Log → Option β) → Option β
  | [], _, s, g, k => k s g
  | o :: rest, i, s, g, k =>
    match o.guard with
    | none => opGK P H call ops [] o s (fun v T d => putK s.tm o.dst v fun tm => aopsK call ops rest (i + 1) { tm := tm, bx := T } ((i, d) :: g) k) none
    | some (j, want) =>
      condK want (((nth? ops j).bind (·.dst)).bind (nth? s.tm ·)) fun oc => match oc with
      | none => none
      | some c => match total o.op with
        | true => opGK P H call ops (chainOf ops 12 i) o s (fun v _ d => match d with
            | .rd fp => (match isUnit v with
              | true => cond c none (putK s.tm o.dst (.gd j want c v) fun tm => aopsK call ops rest (i + 1) { tm := tm, bx := s.bx } ((i, .rd fp) :: g) k)
              | false => putK s.tm o.dst (.gd j want c v) fun tm => aopsK call ops rest (i + 1) { tm := tm, bx := s.bx } ((i, .rd fp) :: g) k)
            | _ => cond c none (putK s.tm o.dst unit fun tm => aopsK call ops rest (i + 1) { tm := tm, bx := s.bx } g k))
            (cond c none (putK s.tm o.dst unit fun tm => aopsK call ops rest (i + 1) { tm := tm, bx := s.bx } g k))
        | false => cond c (fixK s.tm ((nth? ops j).bind (·.dst)) (fixT want) fun tm => opGK P H call ops (chainOf ops 12 i) o { tm := tm, bx := s.bx } (fun v T d => putK tm o.dst v fun tm => aopsK call ops rest (i + 1) { tm := tm, bx := T } ((i, d) :: g) k) none)
            (fixK s.tm ((nth? ops j).bind (·.dst)) (fixF want) fun tm => putK tm o.dst unit fun tm => aopsK call ops rest (i + 1) { tm := tm, bx := s.bx } g k)

def regionK (call : CallK β) (ops : Array Oper) (draw : Bool) (s : St) (k : St → Option β) : Option β :=
  match guardsOK ops.toList with
  | false => none
  | true => aopsK P H call ops.toList ops.toList 0 s [] fun s' g =>
      match (match draw with | false => true | true => drawOK ops.toList && apartB ops.toList g) with
      | false => none
      | true => match noGuard ops.toList with
        | true => k s'
        | false => force (s'.tm.map dropGd) fun tm => k { tm := tm, bx := s'.bx }

/-- A loop's contract: ways, each with its condition, how the loop ends, and the state behind it. -/
abbrev LoopF := Nat → St → List (Bool × Ex × St)
/-- The first way whose condition holds. -/
def pickK {α : Type} (k : α → Option β) : List (Bool × α) → Option β
  | [] => none
  | (t, x) :: r => cond t (k x) (pickK k r)

def aloopK (p : Nat) (kp : Keep) (body : St → (Ex → St → Option β) → Option β) : Nat → St → (Ex → St → Option β) → Option β
  | 0, _, _ => none
  | n + 1, s, k => body s fun e s' => match e with
    | .normal => aloopK p kp body n (norm p kp s') k
    | e => k e (norm p kp s')

/-- Under which number a label's contract stands. -/
def labKey (pos l : Nat) : Nat := (2 * pos + 1) * 4294967296 + l
def agotoK (has : Nat → Bool) (ls : Nat → Option LoopF) (pos p : Nat) (kp : Keep) (frm : Nat → St → (Ex → St → Option β) → Option β) : Nat → Nat → St → (Ex → St → Option β) → Option β
  | 0, _, _, _ => none
  | n + 1, l, s, k => match ls (labKey pos l), has l with
    | some F, true => pickK (fun x => k x.1 x.2) (F p s)
    | _, _ => frm l s fun e s' => match e with
      | .goto l' => agotoK has ls pos p kp frm n l' (norm p kp s') k
      | e => k e s'

mutual
def execK (call : CallK β) (ls : Nat → Option LoopF) (n p : Nat) (kp : Keep) : Nat → Code → St → (Ex → St → Option β) → Option β
  | _, .skip, s, k => k .normal s
  | _, .region _ ops draw, s, k => regionK P H call ops draw s fun s' => k .normal s'
  | pos, .seq a b, s, k => execK call ls n p kp (2 * pos) a s fun e s' => match e with
    | .normal => execK call ls n p kp (2 * pos + 1) b s' k
    | e => k e s'
  | pos, .cond c a b, s, k => match ev H [] s c with
    | some (.bool x) => cond x (fixK s.tm (tmpOf c) (fixT true) fun tm => execK call ls n p kp (2 * pos) a { tm := tm, bx := s.bx } k)
        (fixK s.tm (tmpOf c) (fixF true) fun tm => execK call ls n p kp (2 * pos + 1) b { tm := tm, bx := s.bx } k)
    | _ => none
  | pos, .block id b, s, k => execK call ls n p kp (2 * pos) b s fun e s' => match e with
    | .exit i => if i = id then k .normal s' else k (.exit i) s'
    | e => k e s'
  | pos, .loop b, s, k => match ls pos with
    | none => aloopK p kp (fun s k => execK call ls n p kp (2 * pos) b s k) n (norm p kp s) k
    | some F => pickK (fun x => k x.1 x.2) (F p (norm p kp s))
  | pos, .scope b, s, k => execK call ls n p kp (2 * pos) b s fun e s' => match e with
    | .goto l => agotoK (fun l => hasLabel l b) ls pos p kp (fun l s k => fromK call ls n p kp (2 * pos) l b s k) n l (norm p kp s') k
    | e => k e s'
  | pos, .rangeFunc f ps a b, s, k => match ls pos with
    | some F => pickK (fun x => k x.1 x.2) (F p (norm p kp s))
    | none => none
  | _, .exit id, s, k => k (.exit id) s
  | _, .label _, s, k => k .normal s
  | _, .goto l, s, k => k (.goto l) s
  | _, .ret, s, k => k .ret s
  | _, _, _, _ => none
def fromK (call : CallK β) (ls : Nat → Option LoopF) (n p : Nat) (kp : Keep) : Nat → Nat → Code → St → (Ex → St → Option β) → Option β
  | pos, l, .seq a b, s, k => match hasLabel l a with
    | true => fromK call ls n p kp (2 * pos) l a s fun e s' => match e with
      | .normal => execK call ls n p kp (2 * pos + 1) b s' k
      | e => k e s'
    | false => fromK call ls n p kp (2 * pos + 1) l b s k
  | _, l, .label l', s, k => if l' = l then k .normal s else none
  | _, _, _, _, _ => none
end

/-- A function's contract: ways, each with its condition, the result, and the blocks. -/
abbrev SpecF := List IV → List Blk → List (Bool × IV × List Blk)

def callK (spec : FuncId → Option SpecF) (ls : FuncId → Nat → Option LoopF) : Nat → CallK β
  | 0 => fun _ _ _ _ => none
  | n + 1 => fun f as T k => match spec f with
    | some F => pickK (fun x => k x.1 x.2) (F as T)
    | none => match P.funcs[f]? with
      | some fn => match fn.body with
        | some c => execK P H (callK spec ls n) (ls f) n T.length (H.kp f) 1 c { tm := as ++ List.replicate (fn.ntmps - as.length) .undef, bx := T } fun e s => match e with
          | .normal => (match resOf P H s fn.results.toList with
            | some rs => let r := finish (H.kp f).bp T.length (one rs) s.bx; k r.1 r.2
            | none => none)
          | .ret => (match resOf P H s fn.results.toList with
            | some rs => let r := finish (H.kp f).bp T.length (one rs) s.bx; k r.1 r.2
            | none => none)
          | _ => none
        | none => none
      | none => none
end
end
end Go.Im

namespace Go.Im
open Go
set_option linter.unusedVariables false
set_option linter.unusedSimpArgs false
set_option linter.unnecessarySimpa false
set_option linter.unusedSectionVars false

/-- From some number on. -/
def Ev (p : Nat → Prop) : Prop := ∃ m, ∀ j, m ≤ j → p j
theorem Ev.all {p : Nat → Prop} (h : ∀ j, p j) : Ev p := ⟨0, fun j _ => h j⟩
theorem Ev.and {p q : Nat → Prop} (hp : Ev p) (hq : Ev q) : Ev fun j => p j ∧ q j := by
  obtain ⟨a, ha⟩ := hp
  obtain ⟨b, hb⟩ := hq
  exact ⟨max a b, fun j hj => ⟨ha j (by omega), hb j (by omega)⟩⟩
theorem Ev.mono {p q : Nat → Prop} (hp : Ev p) (h : ∀ j, p j → q j) : Ev q := by
  obtain ⟨a, ha⟩ := hp
  exact ⟨a, fun j hj => h j (ha j hj)⟩

section
variable {β : Type}
def Hit1 (x : Option IV) (kt : IV → Option β) (kf : Option β) (r : β) : Prop := (∃ v, x = some v ∧ kt v = some r) ∨ (x = none ∧ kf = some r)
def Hit (x : R) (kt : IV → List Blk → Kd → Option β) (kf : Option β) (r : β) : Prop := (∃ v T d, x = some (v, T, d) ∧ kt v T d = some r) ∨ (x = none ∧ kf = some r)
def HitE (x : Nat → R) (kt : IV → List Blk → Kd → Option β) (kf : Option β) (r : β) : Prop := (∃ v T d, Ev (fun m => x m = some (v, T, d)) ∧ kt v T d = some r) ∨ (Ev (fun m => x m = none) ∧ kf = some r)

variable {P : Program} {H : Hint} {r : β} {kf : Option β}

theorem oel_hit {x : Option IV} {kt : IV → Option β} (h : oel x kt kf = some r) : Hit1 x kt kf r := by
  cases x with
  | none => exact .inr ⟨rfl, h⟩
  | some v => exact .inl ⟨v, rfl, h⟩
theorem liftK_hit {x : R} {kt : IV → List Blk → Kd → Option β} (h : liftK x kt kf = some r) : Hit x kt kf r := by
  cases x with
  | none => exact .inr ⟨rfl, h⟩
  | some v => obtain ⟨v, T, d⟩ := v; exact .inl ⟨v, T, d, rfl, h⟩
theorem Hit.e {x : R} {kt : IV → List Blk → Kd → Option β} (h : Hit x kt kf r) : HitE (fun _ => x) kt kf r := by
  rcases h with ⟨v, T, d, e, h⟩ | ⟨e, h⟩
  · exact .inl ⟨v, T, d, Ev.all fun _ => e, h⟩
  · exact .inr ⟨Ev.all fun _ => e, h⟩
theorem hit_rdv {T : List Blk} {fp : List Nat} {x : Option IV} {kt : IV → List Blk → Kd → Option β} (h : Hit1 x (fun v => kt v T (.rd fp)) kf r) : Hit (rdv T fp x) kt kf r := by
  rcases h with ⟨v, rfl, h⟩ | ⟨rfl, h⟩
  · exact .inl ⟨v, T, .rd fp, rfl, h⟩
  · exact .inr ⟨rfl, h⟩

theorem cond_some {c : Bool} {a b : Option β} (h : cond c a b = some r) : (c = true ∧ a = some r) ∨ (c = false ∧ b = some r) := by
  cases c
  · exact .inr ⟨rfl, h⟩
  · exact .inl ⟨rfl, h⟩

theorem ibinK_hit {op : BinOp} {k k' : IntKind} {x y : Int} {kt : IV → Option β} (h : ibinK op k k' x y kt kf = some r) : Hit1 (ibin op k k' x y) kt kf r := by
  unfold ibinK at h
  split at h
  · simp only [ibin]
    rcases cond_some h with ⟨h1, h2⟩ | ⟨h1, h2⟩
    · simp only [decide_eq_true_eq] at h1
      rw [if_neg (by omega)]
      exact .inl ⟨_, rfl, h2⟩
    · simp only [decide_eq_false_iff_not] at h1
      rw [if_pos (by omega)]
      exact .inr ⟨rfl, h2⟩
  · simp only [ibin]
    rcases cond_some h with ⟨h1, h2⟩ | ⟨h1, h2⟩
    · simp only [decide_eq_true_eq] at h1
      rw [if_neg (by omega)]
      exact .inl ⟨_, rfl, h2⟩
    · simp only [decide_eq_false_iff_not] at h1
      rw [if_pos (by omega)]
      exact .inr ⟨rfl, h2⟩
  · simp only [ibin]
    split at h
    · rename_i hk
      rw [if_pos hk]
      rcases cond_some h with ⟨h1, h2⟩ | ⟨h1, h2⟩
      · simp only [decide_eq_true_eq] at h1
        rw [if_pos h1]
        exact .inr ⟨rfl, h2⟩
      · simp only [decide_eq_false_iff_not] at h1
        rw [if_neg h1]
        exact .inl ⟨_, rfl, h2⟩
    · rename_i hk
      rw [if_neg hk]
      exact .inr ⟨rfl, h⟩
  · simp only [ibin]
    split at h
    · rename_i hk
      rw [if_pos hk]
      rcases cond_some h with ⟨h1, h2⟩ | ⟨h1, h2⟩
      · simp only [decide_eq_true_eq] at h1
        rw [if_pos h1]
        exact .inr ⟨rfl, h2⟩
      · simp only [decide_eq_false_iff_not] at h1
        rw [if_neg h1]
        exact .inl ⟨_, rfl, h2⟩
    · rename_i hk
      rw [if_neg hk]
      exact .inr ⟨rfl, h⟩
  · exact oel_hit h

theorem nilEqK_hit {T : List Blk} {x : IV} {kt : Bool → Option β} (h : nilEqK T x kt kf = some r) : (∃ v, nilEq T x = some v ∧ kt v = some r) ∨ (nilEq T x = none ∧ kf = some r) := by
  unfold nilEqK at h
  split at h
  · exact .inl ⟨_, rfl, h⟩
  · rename_i hx
    have e : nilEq T x = match slc T x with
      | some (_, _, _, l) => if l.length > 0 then some false else none
      | none => none := by
      unfold nilEq
      split
      · rename_i t a b c
        exact absurd rfl (hx t a b c)
      · rfl
    rw [e]
    split at h
    · rename_i hs
      try rw [hs]
      try simp only
      rcases cond_some h with ⟨h1, h2⟩ | ⟨h1, h2⟩
      · simp only [decide_eq_true_eq] at h1
        rw [if_pos h1]
        exact .inl ⟨_, rfl, h2⟩
      · simp only [decide_eq_false_iff_not] at h1
        rw [if_neg h1]
        exact .inr ⟨rfl, h2⟩
    · rename_i hs
      try rw [hs]
      exact .inr ⟨rfl, h⟩

theorem binSK_hit {T : List Blk} {op : BinOp} {t : TypeId} {x y : IV} {kt : IV → Option β} (h : binSK P T op t x y kt kf = some r) : Hit1 (abinS P T op t x y) kt kf r := by
  unfold binSK at h
  unfold abinS
  split at h
  · rename_i e hu
    rw [hu]
    simp only
    split at h
    · split at h
      · rename_i hy
        simp only [hy, if_true]
        rcases nilEqK_hit h with ⟨v, h1, h2⟩ | ⟨h1, h2⟩
        · rw [h1]; exact .inl ⟨_, rfl, h2⟩
        · rw [h1]; exact .inr ⟨rfl, h2⟩
      · rename_i hy
        split at h
        · rename_i hx
          simp only [hy, hx, if_true, Bool.false_eq_true, if_false]
          rcases nilEqK_hit h with ⟨v, h1, h2⟩ | ⟨h1, h2⟩
          · rw [h1]; exact .inl ⟨_, rfl, h2⟩
          · rw [h1]; exact .inr ⟨rfl, h2⟩
        · rename_i hx
          simp only [hy, hx, Bool.false_eq_true, if_false]
          exact .inr ⟨rfl, h⟩
    · split at h
      · rename_i hy
        simp only [hy, if_true]
        rcases nilEqK_hit h with ⟨v, h1, h2⟩ | ⟨h1, h2⟩
        · rw [h1]; exact .inl ⟨_, rfl, h2⟩
        · rw [h1]; exact .inr ⟨rfl, h2⟩
      · rename_i hy
        split at h
        · rename_i hx
          simp only [hy, hx, if_true, Bool.false_eq_true, if_false]
          rcases nilEqK_hit h with ⟨v, h1, h2⟩ | ⟨h1, h2⟩
          · rw [h1]; exact .inl ⟨_, rfl, h2⟩
          · rw [h1]; exact .inr ⟨rfl, h2⟩
        · rename_i hx
          simp only [hy, hx, Bool.false_eq_true, if_false]
          exact .inr ⟨rfl, h⟩
    · rename_i h1 h2
      refine .inr ⟨?_, h⟩
      split
      · split
        · exact absurd rfl h1
        · exact absurd rfl h2
        · rfl
      · rfl
  · rename_i hu
    refine .inr ⟨?_, h⟩
    split
    · rename_i e he
      exact absurd he (hu e)
    · rfl

theorem binK_hit {T : List Blk} {op : BinOp} {t : TypeId} {x y : IV} {kt : IV → Option β} (h : binK P T op t x y kt kf = some r) : Hit1 (abin P T op t x y) kt kf r := by
  unfold binK at h
  split at h
  · exact ibinK_hit h
  · rename_i a b
    simp only [abin]
    split at h
    · simp only [sbin]
      rcases cond_some h with ⟨h1, h2⟩ | ⟨h1, h2⟩
      · simp only [decide_eq_true_eq] at h1
        rw [if_pos h1]
        exact .inr ⟨rfl, h2⟩
      · simp only [decide_eq_false_iff_not] at h1
        rw [if_neg h1]
        exact .inl ⟨_, rfl, h2⟩
    · exact oel_hit h
  · exact oel_hit h
  · exact oel_hit h
  · rename_i h1 h2 h3 h4
    have e : abin P T op t x y = abinS P T op t x y := by
      unfold abin
      split
      · exact absurd rfl (h1 _ _ _ _ rfl)
      · exact absurd rfl (h2 _ _ rfl)
      · exact absurd rfl (h3 _ _ rfl)
      · exact absurd rfl (h4 _ _ rfl)
      · rfl
    rw [e]
    exact binSK_hit h

/-! ### Cells laid open -/
theorem mkOf_eq {u : LT} {v : IV} (h : isOf u v = true) : mkOf u v = v ∧ leaf v = true := by
  cases u <;> cases v <;> simp [isOf] at h
  · exact ⟨rfl, rfl⟩
  · subst h; exact ⟨rfl, rfl⟩
  · exact ⟨rfl, rfl⟩
  · exact ⟨rfl, rfl⟩
theorem nthD_some {cs : List IV} {j : Nat} (h : leaf (nthD cs j) = true) : cs[j]? = some (nthD cs j) := by
  unfold nthD at *
  rw [List.getD_eq_getElem?_getD] at *
  cases hc : cs[j]? with
  | none => rw [hc] at h; simp [leaf] at h
  | some x => rfl
theorem mkAll_eq : ∀ (us : List LT) (j : Nat) (cs : List IV), testAll us j cs = true → mkAll us j cs = (cs.drop j).take us.length
  | [], j, cs, _ => by simp [mkAll]
  | u :: us, j, cs, h => by
    simp only [testAll, Bool.and_eq_true] at h
    obtain ⟨h1, h2⟩ := mkOf_eq h.1
    have h3 := nthD_some h2
    have hlt := (List.getElem?_eq_some_iff.1 h3).1
    simp only [mkAll, mkAll_eq us (j + 1) cs h.2, h1, List.length_cons]
    rw [List.drop_eq_getElem_cons hlt, List.take_succ_cons]
    congr 1
    have := List.getElem?_eq_getElem hlt
    rw [h3] at this
    exact Option.some.inj this
theorem testAll_len : ∀ (us : List LT) (j : Nat) (cs : List IV), testAll us j cs = true → us = [] ∨ j + us.length ≤ cs.length
  | [], j, cs, _ => .inl rfl
  | u :: us, j, cs, h => by
    simp only [testAll, Bool.and_eq_true] at h
    have hlt := (List.getElem?_eq_some_iff.1 (nthD_some (mkOf_eq h.1).2)).1
    rcases testAll_len us (j + 1) cs h.2 with rfl | h2
    · exact .inr hlt
    · exact .inr (by simp only [List.length_cons]; omega)

theorem etaK_ok {t : TypeId} {cs : List IV} {kt : IV → Option β} (h : etaK P t cs kt = some r) : ∃ v, pack P t (cs.take (sizeAt P t)) = some v ∧ kt v = some r := by
  unfold etaK at h
  split at h
  · rename_i us hus
    split at h
    · rename_i hl ha
      have hl := Nat.eq_of_beq_eq_true hl
      rcases cond_some h with ⟨h1, h2⟩ | ⟨_, h2⟩
      · refine ⟨_, ?_, h2⟩
        have hm := mkAll_eq us 0 cs h1
        rw [List.drop_zero, hl] at hm
        rw [← hm]
        simp only [pack, ha]
        rw [if_pos]
        rw [hm]
        rcases testAll_len us 0 cs h1 with rfl | h3
        · simp at hl; simp [← hl]
        · simp; omega
      · cases h2
    · rename_i hl ha
      have hl := Nat.eq_of_beq_eq_true hl
      split at h
      · rename_i u hl0
        rcases cond_some h with ⟨h1, h2⟩ | ⟨_, h2⟩
        · refine ⟨_, ?_, h2⟩
          have hm := mkAll_eq [u] 0 cs (by simp only [testAll, h1, Bool.and_true])
          rw [List.drop_zero, hl] at hm
          rw [← hm]
          simp [pack, ha, mkAll]
        · cases h2
      · cases h
    · cases h
  · rcases oel_hit h with ⟨v, h1, h2⟩ | ⟨_, h2⟩
    · exact ⟨v, h1, h2⟩
    · cases h2

theorem loadK_hit {T : List Blk} {t : TypeId} {a : IV} {kt : IV → List Blk → Kd → Option β} (h : loadK P T t a kt kf = some r) : Hit (aload P T t a) kt kf r := by
  unfold loadK at h
  split at h
  · simp only [aload]
    split at h
    · rename_i hr
      rw [hr]
      simp only
      rcases cond_some h with ⟨h1, h2⟩ | ⟨h1, h2⟩
      · simp only [decide_eq_true_eq] at h1
        rw [if_pos h1]
        obtain ⟨v, k1, k2⟩ := etaK_ok h2
        rw [k1]
        exact .inl ⟨_, _, _, rfl, k2⟩
      · simp only [decide_eq_false_iff_not] at h1
        rw [if_neg h1]
        exact .inr ⟨rfl, h2⟩
    · rename_i hr
      rw [hr]
      exact .inr ⟨rfl, h⟩
  · simp only [aload]
    obtain ⟨v, k1, k2⟩ := etaK_ok h
    rw [k1]
    exact .inl ⟨_, _, _, rfl, k2⟩
  · exact liftK_hit h

theorem storeK_hit {T : List Blk} {t : TypeId} {a x : IV} {kt : IV → List Blk → Kd → Option β} (h : storeK P T t a x kt kf = some r) : Hit (astore P T t a x) kt kf r := by
  unfold storeK at h
  split at h
  · rename_i b ver i off
    simp only [astore]
    split at h
    · rename_i h0
      rw [if_pos h0]
      split at h
      · rename_i h1
        rw [h1]
        exact .inr ⟨rfl, h⟩
      · rename_i h1
        rw [h1]
        simp only
        split at h
        · rename_i e l ho
          rw [ho]
          simp only
          split at h
          · rename_i y bs hf
            rw [hf]
            simp only
            split at h
            · rename_i h2
              rw [h2]
              exact .inr ⟨rfl, h⟩
            · rename_i h2
              rw [h2]
              simp only
              split at h
              · rename_i h3
                rw [if_pos h3]
                exact .inr ⟨rfl, h⟩
              · rename_i h3
                rw [if_neg h3]
                split at h
                · rename_i h4
                  rcases cond_some h with ⟨h5, h6⟩ | ⟨h5, h6⟩
                  · simp only [decide_eq_true_eq] at h5
                    rw [if_pos ⟨h5, h4⟩]
                    exact .inl ⟨_, _, _, rfl, h6⟩
                  · simp only [decide_eq_false_iff_not] at h5
                    rw [if_neg (fun h => h5 h.1)]
                    exact .inr ⟨rfl, h6⟩
                · rename_i h4
                  rw [if_neg (fun h => h4 h.2)]
                  exact .inr ⟨rfl, h⟩
          · rename_i hf
            rw [hf]
            exact .inr ⟨rfl, h⟩
        · rename_i ho
          rw [ho]
          exact .inr ⟨rfl, h⟩
    · rename_i h0
      rw [if_neg h0]
      exact .inr ⟨rfl, h⟩
  · exact liftK_hit h

theorem indexAddrK_hit {T : List Blk} {t : TypeId} {x ix : IV} {kt : IV → List Blk → Kd → Option β} (h : indexAddrK P T t x ix kt kf = some r) : Hit (aindexAddr P T t x ix) kt kf r := by
  unfold indexAddrK at h
  unfold aindexAddr
  split at h
  · rename_i k i
    simp only
    split at h
    · rename_i e hu
      rw [hu]
      simp only
      split at h
      · rename_i h0
        rw [if_pos h0]
        exact .inr ⟨rfl, h⟩
      · rename_i h0
        rw [if_neg h0]
        split at h
        · simp only
          split at h
          · rename_i hr
            rw [hr]
            simp only
            split at h
            · rename_i hz
              rw [if_pos hz]
              rcases cond_some h with ⟨h5, h6⟩ | ⟨h5, h6⟩
              · simp only [decide_eq_true_eq] at h5
                rw [if_pos h5]
                exact .inl ⟨_, _, _, rfl, h6⟩
              · simp only [decide_eq_false_iff_not] at h5
                rw [if_neg h5]
                exact .inr ⟨rfl, h6⟩
            · rename_i hz
              rw [if_neg hz]
              exact .inr ⟨rfl, h⟩
          · rename_i hr
            rw [hr]
            exact .inr ⟨rfl, h⟩
        · simp only
          split at h
          · rename_i hr
            rw [hr]
            simp only
            split at h
            · rename_i hz
              rw [if_pos hz]
              rcases cond_some h with ⟨h5, h6⟩ | ⟨h5, h6⟩
              · simp only [decide_eq_true_eq] at h5
                rw [if_pos h5]
                exact .inl ⟨_, _, _, rfl, h6⟩
              · simp only [decide_eq_false_iff_not] at h5
                rw [if_neg h5]
                exact .inr ⟨rfl, h6⟩
            · rename_i hz
              rw [if_neg hz]
              exact .inr ⟨rfl, h⟩
          · rename_i hr
            rw [hr]
            exact .inr ⟨rfl, h⟩
        · simp only
          split at h
          · rename_i hr
            rw [hr]
            simp only
            split at h
            · rename_i hz
              rw [if_pos hz]
              rcases cond_some h with ⟨h5, h6⟩ | ⟨h5, h6⟩
              · simp only [decide_eq_true_eq] at h5
                rw [if_pos h5]
                exact .inl ⟨_, _, _, rfl, h6⟩
              · simp only [decide_eq_false_iff_not] at h5
                rw [if_neg h5]
                exact .inr ⟨rfl, h6⟩
            · rename_i hz
              rw [if_neg hz]
              exact .inr ⟨rfl, h⟩
          · rename_i hr
            refine .inr ⟨?_, h⟩
            split
            · rename_i fz cs h9
              exact absurd h9 (hr fz cs)
            · rfl
        · simp only
          rcases cond_some h with ⟨h5, h6⟩ | ⟨h5, h6⟩
          · simp only [decide_eq_true_eq] at h5
            rw [if_pos h5.1, if_pos h5.2]
            exact .inl ⟨_, _, _, rfl, h6⟩
          · simp only [decide_eq_false_iff_not] at h5
            refine .inr ⟨?_, h6⟩
            split
            · rename_i hz
              rw [if_neg (fun h => h5 ⟨hz, h⟩)]
            · rfl
        · rename_i g1 g2 g3 g4
          refine .inr ⟨?_, h⟩
          split
          · exact absurd rfl (g1 _ _)
          · exact absurd rfl (g2 _ _ _ _)
          · exact absurd rfl (g3 _ _ _)
          · exact absurd rfl (g4 _ _ _ _)
          · rfl
    · rename_i len e hu
      rw [hu]
      simp only
      split at h
      · rename_i h0
        rw [if_pos h0]
        exact .inr ⟨rfl, h⟩
      · rename_i h0
        rw [if_neg h0]
        rcases cond_some h with ⟨h5, h6⟩ | ⟨h5, h6⟩
        · simp only [decide_eq_true_eq] at h5
          rw [if_pos h5]
          exact liftK_hit h6
        · simp only [decide_eq_false_iff_not] at h5
          rw [if_neg h5]
          exact .inr ⟨rfl, h6⟩
    · rename_i g1 g2
      refine .inr ⟨?_, h⟩
      split
      · rename_i e he; exact absurd he (g1 e)
      · rename_i n e he; exact absurd he (g2 n e)
      · rfl
  · rename_i g
    refine .inr ⟨?_, h⟩
    split
    · exact absurd rfl (g _ _)
    · rfl

theorem indexK_hit {t : TypeId} {x ix : IV} {kt : IV → Option β} (h : indexK P t x ix kt kf = some r) : Hit1 (aindex P t x ix) kt kf r := by
  unfold indexK at h
  unfold aindex
  split at h
  · rename_i k i
    simp only
    split at h
    · rename_i s hu
      rw [hu]
      simp only
      rcases cond_some h with ⟨h5, h6⟩ | ⟨h5, h6⟩
      · simp only [decide_eq_true_eq] at h5
        rw [if_pos h5]
        exact .inl ⟨_, rfl, h6⟩
      · simp only [decide_eq_false_iff_not] at h5
        rw [if_neg h5]
        exact .inr ⟨rfl, h6⟩
    · rename_i len e l hu
      rw [hu]
      simp only
      rcases cond_some h with ⟨h5, h6⟩ | ⟨h5, h6⟩
      · simp only [decide_eq_true_eq] at h5
        rw [if_pos h5]
        obtain ⟨v, k1, k2⟩ := etaK_ok h6
        rw [k1]
        exact .inl ⟨_, rfl, k2⟩
      · simp only [decide_eq_false_iff_not] at h5
        rw [if_neg h5]
        exact .inr ⟨rfl, h6⟩
    · rename_i g1 g2
      refine .inr ⟨?_, h⟩
      split
      · rename_i s hu; exact absurd rfl (g1 s hu)
      · rename_i n e l hu; exact absurd rfl (g2 n e l hu)
      · rfl
  · rename_i g
    refine .inr ⟨?_, h⟩
    split
    · exact absurd rfl (g _ _)
    · rfl

theorem sliceMK_hit {T : List Blk} {t e : TypeId} (hu : P.underlying t = some (.slice e)) {x : IV} {lo hi : Option IV} {mv : IV} {kt : IV → List Blk → Kd → Option β} (h : sliceMK P T t e x lo hi mv kt kf = some r) : Hit (aslice P T t x lo hi (some mv)) kt kf r := by
  unfold sliceMK at h
  split at h
  · rename_i nl cl z xs k hh k' m
    split at h
    · cases h
    · rename_i h0
      split at h
      · rename_i l h1
        rcases cond_some h with ⟨h5, h6⟩ | ⟨_, h6⟩
        · simp only [decide_eq_true_eq] at h5
          obtain ⟨g1, g2, g3, rfl⟩ := h5
          rcases cond_some h6 with ⟨h7, h8⟩ | ⟨_, h8⟩
          · simp only [decide_eq_true_eq] at h7
            left
            unfold aslice
            rw [hu]
            have hb2 : bnd (xs.length : Int) (some (.int k m)) = some m := rfl
            simp only [h0, if_false, slcLen, slc, Option.map_some]
            rw [h1, hb2]
            simp only
            rw [if_pos ⟨g1, g2, g3⟩]
            simp only [acut, if_true]
            rw [if_pos h7]
            exact ⟨_, _, _, by simp only [Bool.true_or]; rfl, h8⟩
          · cases h8
        · cases h6
      · cases h
  · exact liftK_hit h
theorem sliceK_hit {T : List Blk} {t : TypeId} {x : IV} {lo hi mx : Option IV} {kt : IV → List Blk → Kd → Option β} (h : sliceK P T t x lo hi mx kt kf = some r) : Hit (aslice P T t x lo hi mx) kt kf r := by
  unfold sliceK at h
  split at h
  · rename_i hu
    unfold aslice
    rw [hu]
    simp only
    split at h
    · simp only
      split at h
      · rename_i l hh h1 h2
        rw [h1, h2]
        simp only
        rcases cond_some h with ⟨h5, h6⟩ | ⟨h5, h6⟩
        · simp only [decide_eq_true_eq] at h5
          rw [if_pos h5]
          exact .inl ⟨_, _, _, rfl, h6⟩
        · simp only [decide_eq_false_iff_not] at h5
          rw [if_neg h5]
          exact .inr ⟨rfl, h6⟩
      · rename_i g
        refine .inr ⟨?_, h⟩
        split
        · rename_i l hh g1 g2
          exact absurd g2 (g l hh rfl g1)
        · rfl
    · rename_i g
      refine .inr ⟨?_, h⟩
      split
      · exact absurd rfl (g _)
      · rfl
  · rename_i e hu
    split at h
    · exact sliceMK_hit hu h
    · unfold aslice
      rw [hu]
      simp only
      split at h
      · rename_i h0
        rw [if_pos h0]
        exact .inr ⟨rfl, h⟩
      · rename_i h0
        rw [if_neg h0]
        split at h
        · rename_i n hn
          rw [hn]
          simp only
          split at h
          · rename_i l hh h1 h2
            rw [h1, h2]
            simp only
            rcases cond_some h with ⟨h5, h6⟩ | ⟨h5, h6⟩
            · simp only [decide_eq_true_eq] at h5
              rw [if_pos h5]
              simp only [acut]
              left
              split at h6
              · rcases cond_some h6 with ⟨h7, h8⟩ | ⟨_, h8⟩
                · simp only [decide_eq_true_eq] at h7
                  simp only
                  rw [if_pos h7]
                  exact ⟨_, _, _, by simp only [Bool.false_or]; rfl, h8⟩
                · cases h8
              · simp only
                split at h6
                · rename_i hr
                  rw [hr]
                  simp only
                  split at h6
                  · rename_i hz
                    rw [if_pos hz]
                    exact ⟨_, _, _, rfl, h6⟩
                  · cases h6
                · cases h6
              · simp only
                split at h6
                · rename_i hr
                  rw [hr]
                  simp only
                  split at h6
                  · rename_i hz
                    rw [if_pos hz]
                    exact ⟨_, _, _, rfl, h6⟩
                  · cases h6
                · cases h6
              · simp only
                split at h6
                · rename_i hz
                  rw [if_pos hz]
                  exact ⟨_, _, _, rfl, h6⟩
                · cases h6
              · cases h6
            · simp only [decide_eq_false_iff_not] at h5
              rw [if_neg h5]
              exact .inr ⟨rfl, h6⟩
          · rename_i g
            refine .inr ⟨?_, h⟩
            split
            · rename_i l hh g1 g2
              exact absurd g2 (g l hh g1)
            · rfl
        · rename_i hn
          rw [hn]
          exact .inr ⟨rfl, h⟩
  · exact liftK_hit h

theorem makeK_hit {T : List Blk} {t : TypeId} {l c : Operand} {n : IV} {kt : IV → List Blk → Kd → Option β} (h : makeK P T t l c n kt kf = some r) : Hit (amake P T t l c n) kt kf r := by
  unfold makeK at h
  unfold amake
  split at h
  · rename_i e k n he
    rw [he]
    simp only
    split at h
    · rename_i z size bytes h1 h2
      split
      · rename_i z' s' b' g1 g2
        obtain ⟨rfl, rfl, rfl⟩ : z' = z ∧ s' = size ∧ b' = bytes := by
          have := g2.symm.trans h2
          simp only [Option.some.injEq, Prod.mk.injEq] at this
          exact this
        split at h
        · rename_i hc
          rcases cond_some h with ⟨h5, h6⟩ | ⟨h5, h6⟩
          · simp only [decide_eq_true_eq] at h5
            rw [if_pos h5, hc]
            exact .inl ⟨_, _, _, rfl, h6⟩
          · simp only [decide_eq_false_iff_not] at h5
            rw [if_neg h5]
            exact .inr ⟨rfl, h6⟩
        · rename_i hc
          rw [hc]
          exact .inr ⟨by simp, h⟩
      · rename_i g
        exact absurd h2 (g z size bytes h1)
    · rename_i g
      refine .inr ⟨?_, h⟩
      split
      · rename_i z s b g1 g2
        exact absurd g2 (g z s b g1)
      · rfl
  · rename_i g
    refine .inr ⟨?_, h⟩
    split
    · rename_i e k n he
      exact absurd rfl (g e k n he)
    · rfl

theorem anewK_hit {T : List Blk} {zv : Value} {size bytes : Nat} {u : TypeId} {x : IV} {kt : List IV → Option β} (h : anewK P T zv size bytes u x kt kf = some r) : (∃ l, anew P T zv size bytes u x = some l ∧ kt l = some r) ∨ (anew P T zv size bytes u x = none ∧ kf = some r) := by
  unfold anewK at h
  unfold anew
  split at h
  · rename_i e hu
    rw [hu]
    simp only
    split at h
    · rename_i hs
      simp only [hs]
      rcases cond_some h with ⟨h5, h6⟩ | ⟨h5, h6⟩
      · simp only [decide_eq_true_eq] at h5
        rw [if_pos h5]
        exact .inl ⟨_, rfl, h6⟩
      · simp only [decide_eq_false_iff_not] at h5
        rw [if_neg h5]
        exact .inr ⟨rfl, h6⟩
    · rename_i hs
      simp only [hs]
      exact .inr ⟨trivial, h⟩
  · rename_i b hu
    rw [hu]
    simp only
    split at h
    · rename_i hz
      rw [if_pos hz]
      exact .inl ⟨_, rfl, h⟩
    · rename_i hz
      rw [if_neg hz]
      exact .inr ⟨rfl, h⟩
  · rename_i k n hu
    rw [hu]
    simp only
    split at h
    · rename_i hz
      simp only [hz]
      rcases cond_some h with ⟨h5, h6⟩ | ⟨h5, h6⟩
      · simp only [decide_eq_true_eq] at h5
        rw [if_pos h5]
        exact .inl ⟨_, rfl, h6⟩
      · simp only [decide_eq_false_iff_not] at h5
        rw [if_neg h5]
        exact .inr ⟨rfl, h6⟩
    · rename_i hz
      simp only [hz]
      refine .inr ⟨?_, h⟩
      split <;> rfl
  · rename_i g1 g2 g3
    refine .inr ⟨?_, h⟩
    split
    · rename_i e hu; exact (g1 e hu).elim
    · rename_i b hu; exact (g2 b hu rfl).elim
    · rename_i hu; exact (g3 _ _ _ hu rfl).elim
    · rfl

theorem appendK_hit {T : List Blk} {ts : List TypeId} {s x : IV} {kt : IV → List Blk → Kd → Option β} (h : appendK P T ts s x kt kf = some r) : Hit (aappend P T ts s x) kt kf r := by
  unfold appendK at h
  unfold aappend
  split at h
  · rename_i t u
    simp only
    split at h
    · rename_i e he
      rw [he]
      simp only
      split at h
      · rename_i zv size bytes hi
        rw [hi]
        simp only
        rcases anewK_hit h with ⟨new, hn, h⟩ | ⟨hn, h⟩
        · rw [hn]
          simp only
          split at h
          · rename_i hb
            refine .inr ⟨?_, h⟩
            split
            · rfl
            · rename_i hb2
              rw [hb2] at hb
              simp only [Bool.true_and] at hb
              have hs : ¬ 0 < size := by
                intro h0
                rw [(show Nat.blt 0 size = true by rw [Nat.blt_eq]; exact h0)] at hb
                cases hb
              split
              · split
                · rw [if_neg (fun h => hs h.2.1)]
                · rfl
              · rw [if_neg (fun h => hs h.2.2.1)]
              · rfl
          · rename_i hb
            simp only [Bool.and_eq_true] at hb
            obtain ⟨hb1, hb2⟩ := hb
            rw [hb1]
            have hs : 0 < size := by rw [← Nat.blt_eq]; exact hb2
            simp only
            split at h
            · simp only
              split at h
              · rename_i z l ho
                rw [ho]
                simp only
                split at h
                · rename_i hz
                  rcases cond_some h with ⟨h5, h6⟩ | ⟨h5, h6⟩
                  · simp only [decide_eq_true_eq] at h5
                    rw [if_pos ⟨hz, hs, h5⟩]
                    exact .inl ⟨_, _, _, rfl, h6⟩
                  · simp only [decide_eq_false_iff_not] at h5
                    rw [if_neg (fun h => h5 h.2.2)]
                    exact .inr ⟨rfl, h6⟩
                · rename_i hz
                  rw [if_neg (fun h => hz h.1)]
                  exact .inr ⟨rfl, h⟩
              · rename_i ho
                rw [ho]
                exact .inr ⟨rfl, h⟩
            · rename_i nl cl z l
              simp only
              split at h
              · rename_i hc
                rcases cond_some h with ⟨h5, h6⟩ | ⟨h5, h6⟩
                · simp only [decide_eq_true_eq] at h5
                  rw [if_pos ⟨hc, h5.1, hs, h5.2⟩]
                  exact .inl ⟨_, _, _, rfl, h6⟩
                · simp only [decide_eq_false_iff_not] at h5
                  rw [if_neg (fun h => h5 ⟨h.2.1, h.2.2.2⟩)]
                  exact .inr ⟨rfl, h6⟩
              · rename_i hc
                rw [if_neg (fun h => by rw [hc] at h; cases h.1)]
                exact .inr ⟨rfl, h⟩
            · rename_i g1 g2
              refine .inr ⟨?_, h⟩
              split
              · exact absurd rfl (g1 _ _)
              · exact absurd rfl (g2 _ _ _ _)
              · rfl
        · refine .inr ⟨?_, h⟩
          rw [hn]
      · rename_i hi
        rw [hi]
        exact .inr ⟨rfl, h⟩
    · rename_i he
      rw [he]
      exact .inr ⟨rfl, h⟩
  · rename_i g
    refine .inr ⟨?_, h⟩
    split
    · exact absurd rfl (g _ _)
    · rfl

theorem isBytes_eq : ∀ (l : List IV), isBytes l = true → bytesOfIV l = some (toBytes l)
  | [], _ => rfl
  | .int k n :: xs, h => by
    cases k <;> simp only [isBytes] at h <;> first | cases h | skip
    simp only [bytesOfIV, isBytes_eq xs h, toBytes, intOf]
    rfl
  | .undef :: _, h | .bool _ :: _, h | .str _ :: _, h | .nilp :: _, h | .nilf :: _, h | .nili :: _, h | .agg _ :: _, h | .tup _ :: _, h | .fsl .. :: _, h | .fp _ :: _, h | .fn .. :: _, h | .gd .. :: _, h | .osl .. :: _, h
  | .vsl .. :: _, h | .vsv .. :: _, h | .ep .. :: _, h | .ptr .. :: _, h | .yf .. :: _, h => by simp [isBytes] at h
theorem convK_hit {T : List Blk} {src dst : TypeId} {x : IV} {kt : IV → List Blk → Kd → Option β} (h : convK P T src dst x kt kf = some r) : Hit (aconv P T src dst x) kt kf r := by
  unfold convK at h
  split at h
  · rename_i e hs hd
    split at h
    · rename_i hu
      split at h
      · rename_i a b z l hsl
        rcases cond_some h with ⟨h5, h6⟩ | ⟨h5, h6⟩
        · simp only [Bool.and_eq_true, decide_eq_true_eq] at h5
          have e0 : aconv P T src dst x = rdv T (refs x) ((slc T x).bind fun y => if y.2.2.1 = 1 ∨ y.2.2.2.length = 0 then (bytesOfIV y.2.2.2).map .str else none) := by
            cases x <;> (first | (simp [slc] at hsl; done) | (unfold aconv; rw [hs, hd]; simp only [hu]))
          rw [e0, hsl]
          simp only [Option.bind_some]
          rw [if_pos h5.1, isBytes_eq l h5.2]
          exact .inl ⟨_, _, _, rfl, h6⟩
        · cases h6
      · exact liftK_hit h
    · cases h
  · exact liftK_hit h

theorem mergeK0_eq (c : Bool) (a b : Option IV) (kt : IV → Option β) : mergeK0 c a b kt kf = oel (merge c a b) kt kf := by
  rcases a with _ | a
  · cases c <;> rfl
  · rcases b with _ | b
    · cases a <;> cases c <;> rfl
    · cases a with
      | int k x => cases b with
        | int k' y => simp only [mergeK0, merge]; split <;> cases c <;> rfl
        | _ => cases c <;> rfl
      | bool x => cases b <;> cases c <;> rfl
      | _ => cases c <;> rfl
theorem skipped_eq {a : Option IV} (h : skipped a = true) : a = some (.tup []) := by
  unfold skipped at h
  split at h
  · rfl
  · cases h
theorem mergeK_some {c : Bool} {a b : Option IV} {kt : IV → Option β} (h : mergeK c a b kt kf = some r) : oel (merge c a b) kt kf = some r := by
  unfold mergeK at h
  split at h
  · rename_i ha
    have ha := skipped_eq ha
    subst ha
    cases c
    · rw [← h]; cases b <;> rfl
    · cases h
  · rename_i ha hb
    have hb := skipped_eq hb
    subst hb
    cases c
    · cases h
    · rw [← h]
      cases a with
      | none => rfl
      | some x => cases x <;> rfl
  · rw [← mergeK0_eq]; exact h
theorem mergeC_hit {ch : List (Nat × Bool)} {c : Bool} {a b : Option IV} {kt : IV → Option β} (h : mergeC ch c a b kt kf = some r) : Hit1 (merge c a b) kt kf r := by
  unfold mergeC at h
  split at h
  · exact oel_hit (mergeK_some h)
  · exact oel_hit ((mergeK0_eq c a b kt).symm.trans h)
/-! ### Calls -/
/-- What a caller may take for a callee's. -/
def CallEv (callk : CallK β) (call : Nat → CallF) (r : β) : Prop := ∀ (f : FuncId) (as : List IV) (T : List Blk) (k : IV → List Blk → Option β), callk f as T k = some r →
  ∃ v T1, Ev (fun m => call m f as T = some (v, T1)) ∧ k v T1 = some r

def aft0 (H : Hint) (T : List Blk) (f : FuncId) (lent : List Nat) (v : IV) (T1 : List Blk) : R := match H.keep f with
  | false => match frz T1 v with
    | none => none
    | some (r', _) => match scalar v, lent with
      | true, _ => some (r', T, .rd lent)
      | false, [] => some (r', T, .rd [])
      | false, _ => some (r', shut T lent, .ef lent)
  | true => match lent with
    | [] => some (back (fbk [] T.length) (vbk T []) v, T ++ backBs (fbk [] T.length) (vbk T []) 0 T1, .ef ((List.range T1.length).map (T.length + ·)))
    | _ => some (back (fbk [] T.length) (vbk T []) v, shut T lent ++ backBs (fbk [] T.length) (vbk T []) 0 T1, .ef (lent ++ (List.range T1.length).map (T.length + ·)))
def aft1 (H : Hint) (T : List Blk) (f : FuncId) (hd lent : List Nat) (v : IV) (T1 : List Blk) : R := match H.keep f with
  | false => match frz T1 v with
    | none => none
    | some (r', fr) => match scalar v && T1.all scalarB with
      | true => some (r', putBack T hd (backBs (fbk hd T.length) (vbk T hd) 0 T1), .ef (hd ++ (List.range (T1.length - hd.length)).map (T.length + ·)))
      | false => some (r', shut (putBack (shut T lent) hd (backBs (fbk hd T.length) (vbk T hd) 0 T1)) (fr.map (fbk hd T.length)), .ef (hd ++ lent ++ (List.range (T1.length - hd.length)).map (T.length + ·)))
  | true => some (back (fbk hd T.length) (vbk T hd) v, putBack (shut T lent) hd (backBs (fbk hd T.length) (vbk T hd) 0 T1), .ef (hd ++ lent ++ (List.range (T1.length - hd.length)).map (T.length + ·)))
theorem doCall_aft0 {T : List Blk} {f : FuncId} {as as' : List IV} {lent : List Nat} {v : IV} {T1 : List Blk} {call : CallF} (hh : handed T (H.mv f) as = []) (hl : lendL (fun _ => none) T as = some (as', lent)) (hm : call f as' [] = some (v, T1)) :
    doCall H call T f as = aft0 H T f lent v T1 := by
  unfold doCall aft0
  rw [hh]
  simp only [hl, hm]
  rfl
theorem doCall_aft1 {T : List Blk} {f : FuncId} {as as' : List IV} {lent : List Nat} {v : IV} {T1 : List Blk} {call : CallF} (hh : handed T (H.mv f) as ≠ []) (hl : lendL (idx (handed T (H.mv f) as)) T as = some (as', lent))
    (ha : (handed T (H.mv f) as).all (decide <| · < T.length) = true) (hm : call f as' ((handed T (H.mv f) as).map (renB false 0 (idx (handed T (H.mv f) as)) T)) = some (v, T1)) :
    doCall H call T f as = aft1 H T f (handed T (H.mv f) as) lent v T1 := by
  unfold doCall aft1
  split
  · rename_i h0
    exact absurd h0 hh
  · simp only [hl, ha, hm]
    rfl

theorem doCallK_ok {callk : CallK β} {call : Nat → CallF} (hc : CallEv callk call r) {T : List Blk} {f : FuncId} {as : List IV} {kt : IV → List Blk → Kd → Option β} (h : doCallK H callk T f as kt = some r) :
    ∃ v T' d, Ev (fun m => doCall H (call m) T f as = some (v, T', d)) ∧ kt v T' d = some r := by
  unfold doCallK at h
  split at h
  · rename_i hh
    split at h
    · cases h
    · rename_i as' lent hl
      obtain ⟨v, T1, h1, h2⟩ := hc _ _ _ _ h
      have e : ∀ m, call m f as' [] = some (v, T1) → doCall H (call m) T f as = aft0 H T f lent v T1 := fun m hm => doCall_aft0 hh hl hm
      unfold aft0 at e
      split at h2
      · rename_i hk
        split at h2
        · cases h2
        · rename_i r' fr hf
          cases hs : scalar v with
          | true =>
            rw [hs] at h2
            exact ⟨_, _, _, h1.mono fun m hm => by rw [e m hm, hk, hf]; simp only [hs], h2⟩
          | false =>
            rw [hs] at h2
            cases lent with
            | nil => exact ⟨_, _, _, h1.mono fun m hm => by rw [e m hm, hk, hf]; simp only [hs], h2⟩
            | cons b bs => exact ⟨_, _, _, h1.mono fun m hm => by rw [e m hm, hk, hf]; simp only [hs], h2⟩
      · rename_i hk
        cases lent with
        | nil => exact ⟨_, _, _, h1.mono fun m hm => by rw [e m hm, hk], h2⟩
        | cons b bs => exact ⟨_, _, _, h1.mono fun m hm => by rw [e m hm, hk], h2⟩
  · rename_i hh
    split at h
    · rename_i as' lent hl ha
      obtain ⟨v, T1, h1, h2⟩ := hc _ _ _ _ h
      have e : ∀ m, _ → doCall H (call m) T f as = aft1 H T f (handed T (H.mv f) as) lent v T1 := fun m hm => doCall_aft1 hh hl ha hm
      unfold aft1 at e
      split at h2
      · rename_i hk
        split at h2
        · cases h2
        · rename_i r' fr hf
          split at h2
          · rename_i hs
            exact ⟨_, _, _, h1.mono fun m hm => by rw [e m hm, hk, hf]; simp only [hs], h2⟩
          · rename_i hs
            exact ⟨_, _, _, h1.mono fun m hm => by rw [e m hm, hk, hf]; simp only [hs], h2⟩
      · rename_i hk
        exact ⟨_, _, _, h1.mono fun m hm => by rw [e m hm, hk], h2⟩
    · cases h

theorem builtinK_hit {T : List Blk} {b : Builtin} {ts : List TypeId} {vs : List IV} {kt : IV → List Blk → Kd → Option β} (h : builtinK P T b ts vs kt kf = some r) : Hit (abuiltin P T b ts vs) kt kf r := by
  unfold builtinK at h
  split at h
  · exact appendK_hit h
  · exact liftK_hit h

theorem aop_nocall {call : CallF} {ops : List Oper} {ch : List (Nat × Bool)} {o : Oper} {s : St} (h : ∀ c, o.op ≠ .call c) : aop P H call ops ch o s = aop P H (fun _ _ _ => none) ops ch o s := by
  unfold aop
  cases ho : o.op with
  | call c => exact absurd ho (h c)
  | _ => simp only

theorem opK_hit {callk : CallK β} {call : Nat → CallF} (hc : CallEv callk call r) {ops : List Oper} {ch : List (Nat × Bool)} {o : Oper} {s : St} {kt : IV → List Blk → Kd → Option β}
    (h : opK P H callk ops ch o s kt kf = some r) : HitE (fun m => aop P H (call m) ops ch o s) kt kf r := by
  unfold opK at h
  split at h
  · rename_i c a b ho
    have e : (fun m => aop P H (call m) ops ch o s) = fun _ => oPick H ops ch s c a b := by funext m; unfold aop; rw [ho]
    rw [e]
    refine Hit.e ?_
    unfold oPick
    split at h
    · rename_i h1 h2
      rw [h1, h2]
      exact hit_rdv (mergeC_hit h)
    · rename_i h1 h2
      rw [h1, h2]
      exact hit_rdv (mergeC_hit h)
    · rename_i g1 g2
      refine .inr ⟨?_, h⟩
      split
      · rename_i k1 k2; exact absurd k2 (g1 _ _ k1)
      · rename_i k1 k2; exact absurd k2 (g2 _ k1)
      · rfl
  · rename_i op t x y k ho
    have e : (fun m => aop P H (call m) ops ch o s) = fun _ => oBin P H ch s op t x y := by funext m; unfold aop; rw [ho]
    rw [e]
    refine Hit.e ?_
    unfold oBin
    split at h
    · rename_i h1 h2
      rw [h1, h2]
      exact hit_rdv (binK_hit h)
    · rename_i g1
      refine .inr ⟨?_, h⟩
      split
      · rename_i k1 k2; exact absurd k2 (g1 _ _ k1)
      · rfl
  · rename_i src dst x ho
    have e : (fun m => aop P H (call m) ops ch o s) = fun _ => oConv P H ch s src dst x := by funext m; unfold aop; rw [ho]
    rw [e]
    refine Hit.e ?_
    unfold oConv
    split at h
    · rename_i h1
      rw [h1]
      exact convK_hit h
    · rename_i h1
      rw [h1]
      exact .inr ⟨rfl, h⟩
  · rename_i t a ho
    have e : (fun m => aop P H (call m) ops ch o s) = fun _ => oLoad P H ch s t a := by funext m; unfold aop; rw [ho]
    rw [e]
    refine Hit.e ?_
    unfold oLoad
    split at h
    · rename_i h1
      rw [h1]
      exact loadK_hit h
    · rename_i h1
      rw [h1]
      exact .inr ⟨rfl, h⟩
  · rename_i t a x ho
    have e : (fun m => aop P H (call m) ops ch o s) = fun _ => oStore P H ch s t a x := by funext m; unfold aop; rw [ho]
    rw [e]
    refine Hit.e ?_
    unfold oStore
    split at h
    · rename_i h1 h2
      rw [h1, h2]
      exact storeK_hit h
    · rename_i g1
      refine .inr ⟨?_, h⟩
      split
      · rename_i k1 k2; exact absurd k2 (g1 _ _ k1)
      · rfl
  · rename_i t x ix ho
    have e : (fun m => aop P H (call m) ops ch o s) = fun _ => oIndexAddr P H ch s t x ix := by funext m; unfold aop; rw [ho]
    rw [e]
    refine Hit.e ?_
    unfold oIndexAddr
    split at h
    · rename_i h1 h2
      rw [h1, h2]
      exact indexAddrK_hit h
    · rename_i g1
      refine .inr ⟨?_, h⟩
      split
      · rename_i k1 k2; exact absurd k2 (g1 _ _ k1)
      · rfl
  · rename_i t x ix ho
    have e : (fun m => aop P H (call m) ops ch o s) = fun _ => oIndex P H ch s t x ix := by funext m; unfold aop; rw [ho]
    rw [e]
    refine Hit.e ?_
    unfold oIndex
    split at h
    · rename_i h1 h2
      rw [h1, h2]
      exact hit_rdv (indexK_hit h)
    · rename_i g1
      refine .inr ⟨?_, h⟩
      split
      · rename_i k1 k2; exact absurd k2 (g1 _ _ k1)
      · rfl
  · rename_i t x lo hi mx ho
    have e : (fun m => aop P H (call m) ops ch o s) = fun _ => oSlice P H ch s t x lo hi mx := by funext m; unfold aop; rw [ho]
    rw [e]
    refine Hit.e ?_
    unfold oSlice
    split at h
    · rename_i h1 h2 h3 h4
      rw [h1, h2, h3, h4]
      exact sliceK_hit h
    · rename_i g1
      refine .inr ⟨?_, h⟩
      split
      · rename_i k1 k2 k3 k4; exact absurd k4 (g1 _ _ _ _ k1 k2 k3)
      · rfl
  · rename_i t l c ho
    have e : (fun m => aop P H (call m) ops ch o s) = fun _ => oMake P H ch s t l c := by funext m; unfold aop; rw [ho]
    rw [e]
    refine Hit.e ?_
    unfold oMake
    split at h
    · rename_i h1
      rw [h1]
      exact makeK_hit h
    · rename_i h1
      rw [h1]
      exact .inr ⟨rfl, h⟩
  · rename_i c ho
    have e : ∀ m, aop P H (call m) ops ch o s = oCall P H (call m) ch s c := by intro m; unfold aop; rw [ho]
    have e' : (fun m => aop P H (call m) ops ch o s) = fun m => oCall P H (call m) ch s c := funext e
    rw [e']
    split at h
    · rename_i vs hvs
      split at h
      · rename_i b hb
        have e2 : (fun m : Nat => oCall P H (call m) ch s c) = fun _ => abuiltin P s.bx b c.argTypes.toList vs := by
          funext m
          unfold oCall
          rw [hvs, hb]
        rw [e2]
        exact (builtinK_hit h).e
      · rename_i f hf
        split at h
        · rename_i g cap hg
          split at h
          · cases h
          rename_i hgy
          obtain ⟨v, T', d, h1, h2⟩ := doCallK_ok hc h
          refine .inl ⟨v, T', d, h1.mono fun m hm => ?_, h2⟩
          unfold oCall
          rw [hvs, hf]
          simp only [oCallV, hg, hgy]
          exact hm
        · rename_i b hg
          obtain ⟨v, T', h1, h2⟩ := hc _ _ _ _ h
          refine .inl ⟨v, T', _, h1.mono fun m hm => ?_, h2⟩
          unfold oCall
          rw [hvs, hf]
          simp only [oCallV, hg]
          rw [hm]
        · cases h
      · rename_i g1 g2
        refine .inr ⟨Ev.all fun m => ?_, h⟩
        unfold oCall
        rw [hvs]
        simp only
    · rename_i hvs
      refine .inr ⟨Ev.all fun m => ?_, h⟩
      unfold oCall
      rw [hvs]
  · rename_i g1 g2 g3 g4 g5 g6 g7 g8 g9 g10
    have e : (fun m => aop P H (call m) ops ch o s) = fun _ => aop P H (fun _ _ _ => none) ops ch o s := by
      funext m
      exact aop_nocall (fun c hcl => g10 c hcl)
    rw [e]
    exact (liftK_hit h).e

theorem opGK_hit {callk : CallK β} {call : Nat → CallF} (hc : CallEv callk call r) {ops : List Oper} {ch : List (Nat × Bool)} {o : Oper} {s : St} {kt : IV → List Blk → Kd → Option β}
    (h : opGK P H callk ops ch o s kt kf = some r) : HitE (fun m => aopG P H (call m) ops ch o s) kt kf r := by
  unfold opGK at h
  rcases opK_hit hc h with ⟨v, T, d, h1, h2⟩ | ⟨h1, h2⟩
  · have other : (∀ m, aop P H (call m) ops ch o s = some (v, T, d) → aopG P H (call m) ops ch o s = some (v, T, d)) → kt v T d = some r → HitE (fun m => aopG P H (call m) ops ch o s) kt kf r :=
      fun e h2 => .inl ⟨v, T, d, h1.mono fun m hm => e m hm, h2⟩
    cases v with
    | gd j w c x => exact .inr ⟨h1.mono fun m hm => by unfold aopG; simp only at hm ⊢; rw [hm], h2⟩
    | _ => exact other (fun m hm => by unfold aopG; rw [hm]) h2
  · refine .inr ⟨h1.mono fun m hm => ?_, h2⟩
    unfold aopG
    simp only at hm ⊢
    rw [hm]

/-! ### Regions -/
theorem set_slot {tm : List IV} {d : Nat} {x : IV} (h : tm[d]? = some x) : tm.set d x = tm := by
  have hl := (List.getElem?_eq_some_iff.1 h).1
  have := List.getElem?_eq_getElem hl
  rw [h] at this
  rw [Option.some.inj this]
  exact List.set_getElem_self hl
theorem fixT_eq {tm : List IV} {d : Option Tmp} {want : Bool} (h : condOf want (d.bind (nth? tm ·)) = some true) {γ : Type} (k : List IV → γ) : fixK tm d (fixT want) k = k tm := by
  cases d with
  | none => rfl
  | some d =>
    simp only [fixK, setK_eq]
    simp only [Option.bind_some, nth?_eq] at h
    cases hx : tm[d]? with
    | none => rw [hx] at h; simp [condOf] at h
    | some x =>
      have hn : nthD tm d = x := by simp [nthD, List.getD_eq_getElem?_getD, hx]
      rw [hn]
      have : fixT want x = x := by
        rw [hx] at h
        cases x with
        | bool b => simp [condOf] at h; simp [fixT, h]
        | gd j w c y => cases y <;> simp [condOf] at h <;> simp [fixT, h]
        | _ => rfl
      rw [this, set_slot hx]
theorem fixF_eq {tm : List IV} {d : Option Tmp} {want : Bool} (h : condOf want (d.bind (nth? tm ·)) = some false) {γ : Type} (k : List IV → γ) : fixK tm d (fixF want) k = k tm := by
  cases d with
  | none => rfl
  | some d =>
    simp only [fixK, setK_eq]
    simp only [Option.bind_some, nth?_eq] at h
    cases hx : tm[d]? with
    | none => rw [hx] at h; simp [condOf] at h
    | some x =>
      have hn : nthD tm d = x := by simp [nthD, List.getD_eq_getElem?_getD, hx]
      rw [hn]
      have : fixF want x = x := by
        rw [hx] at h
        cases x with
        | bool b => simp [condOf] at h; cases b <;> cases want <;> simp_all [fixF]
        | gd j w c y => cases y with
          | bool b => simp only [condOf, Option.some.injEq] at h; cases c <;> cases b <;> cases want <;> simp_all [fixF]
          | _ => rfl
        | _ => rfl
      rw [this, set_slot hx]

theorem condK_some {γ : Type} {want : Bool} {x : Option IV} {k : Option Bool → Option γ} {u : γ} (h : condK want x k = some u) : k (condOf want x) = some u := by
  unfold condK at h
  split at h
  · exact h
  · rename_i j w c y hy
    cases c
    · rw [← h]
      cases y <;> first | rfl | exact absurd rfl (hy _ _ _ _)
    · cases h
  · exact h
theorem aopsK_ok {callk : CallK β} {call : Nat → CallF} (hc : CallEv callk call r) {ops : List Oper} : ∀ (rest : List Oper) (i : Nat) (s : St) (g : Log) (k : St → Log → Option β),
    aopsK P H callk ops rest i s g k = some r → ∃ s' g', Ev (fun m => aops P H (call m) ops rest i s g = some (s', g')) ∧ k s' g' = some r
  | [], i, s, g, k, h => ⟨s, g, Ev.all fun _ => rfl, h⟩
  | o :: rest, i, s, g, k, h => by
    have ih := aopsK_ok hc (ops := ops) rest (i + 1)
    unfold aopsK at h
    split at h
    · rename_i hg
      rcases opGK_hit hc h with ⟨v, T, d, h1, h2⟩ | ⟨_, h2⟩
      · dsimp only at h2
        rw [putK_eq] at h2
        obtain ⟨s', g', k1, k2⟩ := ih _ _ _ h2
        refine ⟨s', g', (h1.and k1).mono fun m hm => ?_, k2⟩
        unfold aops
        rw [hg]
        simp only at hm
        simp only [hm.1, putK_eq]
        exact hm.2
      · cases h2
    · rename_i j want hg
      replace h := condK_some h
      split at h
      · cases h
      · rename_i c hcd
        have skip : putK s.tm o.dst unit (fun tm => aopsK P H callk ops rest (i + 1) { tm := tm, bx := s.bx } g k) = some r → ∃ s' g', Ev (fun m => putK s.tm o.dst unit (fun tm => aops P H (call m) ops rest (i + 1) { tm := tm, bx := s.bx } g) = some (s', g')) ∧ k s' g' = some r := by
          intro h2
          rw [putK_eq] at h2
          obtain ⟨s', g', k1, k2⟩ := ih _ _ _ h2
          exact ⟨s', g', k1.mono fun m hm => by rw [putK_eq]; exact hm, k2⟩
        split at h
        · rename_i ht
          rcases opGK_hit hc h with ⟨v, T, d, h1, h2⟩ | ⟨h1, h2⟩
          · dsimp only at h2
            split at h2
            · rename_i fp
              replace h2 : putK s.tm o.dst (.gd j want c v) (fun tm => aopsK P H callk ops rest (i + 1) { tm := tm, bx := s.bx } ((i, .rd fp) :: g) k) = some r := by
                split at h2
                · rcases cond_some h2 with ⟨_, h2⟩ | ⟨_, h2⟩
                  · cases h2
                  · exact h2
                · exact h2
              rw [putK_eq] at h2
              obtain ⟨s', g', k1, k2⟩ := ih _ _ _ h2
              refine ⟨s', g', (h1.and k1).mono fun m hm => ?_, k2⟩
              unfold aops
              rw [hg]
              simp only at hm
              simp only [hcd, ht, hm.1, putK_eq]
              exact hm.2
            · rename_i hd
              rcases cond_some h2 with ⟨_, h2⟩ | ⟨hcf, h2⟩
              · cases h2
              · obtain ⟨s', g', k1, k2⟩ := skip h2
                refine ⟨s', g', (h1.and k1).mono fun m hm => ?_, k2⟩
                unfold aops
                rw [hg]
                simp only at hm
                simp only [hcd, ht, hm.1, hcf]
                split
                · rename_i fp he
                  simp only [Option.some.injEq, Prod.mk.injEq] at he
                  exact absurd he.2.2 (hd fp)
                · exact hm.2
          · rcases cond_some h2 with ⟨_, h2⟩ | ⟨hcf, h2⟩
            · cases h2
            · obtain ⟨s', g', k1, k2⟩ := skip h2
              refine ⟨s', g', (h1.and k1).mono fun m hm => ?_, k2⟩
              unfold aops
              rw [hg]
              simp only at hm
              simp only [hcd, ht, hm.1, hcf]
              exact hm.2
        · rename_i ht
          rcases cond_some h with ⟨hcf, h2⟩ | ⟨hcf, h2⟩
          · rw [fixT_eq (by rw [hcd, hcf])] at h2
            rcases opGK_hit hc h2 with ⟨v, T, d, h1, h2⟩ | ⟨_, h2⟩
            · dsimp only at h2
              rw [putK_eq] at h2
              obtain ⟨s', g', k1, k2⟩ := ih _ _ _ h2
              refine ⟨s', g', (h1.and k1).mono fun m hm => ?_, k2⟩
              unfold aops
              rw [hg]
              simp only at hm
              simp only [hcd, ht, hcf, hm.1, putK_eq]
              exact hm.2
            · cases h2
          · rw [fixF_eq (by rw [hcd, hcf])] at h2
            obtain ⟨s', g', k1, k2⟩ := skip h2
            refine ⟨s', g', k1.mono fun m hm => ?_, k2⟩
            unfold aops
            rw [hg]
            simp only [hcd, ht, hcf]
            exact hm

theorem regionK_ok {callk : CallK β} {call : Nat → CallF} (hc : CallEv callk call r) {ops : Array Oper} {draw : Bool} {s : St} {k : St → Option β} (h : regionK P H callk ops draw s k = some r) :
    ∃ s', Ev (fun m => aregion P H (call m) ops draw s = some s') ∧ k s' = some r := by
  unfold regionK at h
  split at h
  · cases h
  · rename_i hg
    obtain ⟨s', g, h1, h2⟩ := aopsK_ok hc _ _ _ _ _ h
    split at h2
    · cases h2
    · rename_i hd
      split at h2
      · rename_i hn
        refine ⟨s', h1.mono fun m hm => ?_, h2⟩
        unfold aregion
        simp only [hg, hm, hn]
        cases draw with
        | false => rfl
        | true =>
          simp only at hd ⊢
          rw [hd]
      · rename_i hn
        rw [force_eq] at h2
        refine ⟨_, h1.mono fun m hm => ?_, h2⟩
        unfold aregion
        simp only [hg, hm, hn, force_eq]
        cases draw with
        | false => rfl
        | true =>
          simp only at hd ⊢
          rw [hd]
end
end Go.Im

namespace Go.Im
open Go
set_option linter.unusedVariables false
set_option linter.unusedSimpArgs false
set_option linter.unnecessarySimpa false
set_option linter.unusedSectionVars false

/-- What has a contract of its own within a code: a loop; what comes from a label on; a loop over a function. -/
inductive LItem
  | loop (b : Code) | lab (l : Nat) (b : Code) | rf (f : Operand) (ps : Array Tmp) (a b : Code)
  deriving Inhabited
def labelsOf : Code → List Nat
  | .seq a b => labelsOf a ++ labelsOf b
  | .label l => [l]
  | _ => []
/-- The loops of a code, each with its place. -/
def loopsOf : Nat → Code → List (Nat × LItem)
  | pos, .seq a b => loopsOf (2 * pos) a ++ loopsOf (2 * pos + 1) b
  | pos, .cond _ a b => loopsOf (2 * pos) a ++ loopsOf (2 * pos + 1) b
  | pos, .block _ b => loopsOf (2 * pos) b
  | pos, .loop b => (pos, .loop b) :: loopsOf (2 * pos) b
  | pos, .scope b => (labelsOf b).map (fun l => (labKey pos l, .lab l b)) ++ loopsOf (2 * pos) b
  | pos, .rangeFunc f ps a b => [(pos, .rf f ps a b)]
  | _, _ => []

noncomputable def itemRun (P : Program) (H : Hint) (call : CallF) (it : ItF) (kp : Keep) (p j i : Nat) : LItem → St → Option (Ex × St)
  | .loop b, s => aloop p kp (aexec P H call it j p kp b) i s
  | .lab l b, s => agoto p kp (fun l s => afrom P H call it j p kp l b s) i l s
  | .rf f ps a b, s => arf H it p kp f ps (fun p s => aexec P H call noIt j p kp a s) (fun p s => aexec P H call noIt j p kp b s) s

section
variable {β : Type} {P : Program} {H : Hint} {r : β}

/-- A loop's contract holds. -/
def LoopOK (P : Program) (H : Hint) (call : Nat → CallF) (it : Nat → ItF) (kp : Keep) (x : LItem) (F : LoopF) : Prop :=
  ∀ (p : Nat) (s : St) (e : Ex) (s' : St), (true, e, s') ∈ F p s → ∃ m, ∀ j i, m ≤ j → m ≤ i → itemRun P H (call j) (it j) kp p j i x s = some (e, s')

theorem pickK_ok {α : Type} {k : α → Option β} : ∀ {l : List (Bool × α)}, pickK k l = some r → ∃ x, l.find? (·.1) = some (true, x) ∧ k x = some r
  | [], h => by simp [pickK] at h
  | (t, x) :: l, h => by
    unfold pickK at h
    rcases cond_some h with ⟨rfl, h2⟩ | ⟨rfl, h2⟩
    · exact ⟨x, rfl, h2⟩
    · obtain ⟨y, h3, h4⟩ := pickK_ok h2
      exact ⟨y, by simpa using h3, h4⟩

/-- What a code's continuations may be given. -/
def Ends (x : Nat → Option (Ex × St)) (k : Ex → St → Option β) (r : β) : Prop := ∃ e s', Ev (fun m => x m = some (e, s')) ∧ k e s' = some r

theorem aloopK_ok {p : Nat} {kp : Keep} {body : St → (Ex → St → Option β) → Option β} {run : Nat → St → Option (Ex × St)}
    (hb : ∀ s k, body s k = some r → Ends (fun m => run m s) k r) : ∀ (n : Nat) (s : St) (k : Ex → St → Option β), aloopK p kp body n s k = some r →
      ∃ e s', (∃ m, ∀ j i, m ≤ j → m ≤ i → aloop p kp (run j) i s = some (e, s')) ∧ k e s' = some r
  | 0, s, k, h => by simp [aloopK] at h
  | n + 1, s, k, h => by
    unfold aloopK at h
    obtain ⟨e, s1, ⟨m1, h1⟩, h2⟩ := hb _ _ h
    cases e with
    | normal =>
      obtain ⟨e, s', ⟨m2, h3⟩, h4⟩ := aloopK_ok hb n _ _ h2
      refine ⟨e, s', ⟨m1 + m2 + 1, fun j i hj hi => ?_⟩, h4⟩
      obtain ⟨i, rfl⟩ : ∃ i', i = i' + 1 := ⟨i - 1, by omega⟩
      have e1 := h1 j (by omega)
      simp only at e1
      unfold aloop
      rw [e1]
      exact h3 j i (by omega) (by omega)
    | _ =>
      refine ⟨_, norm p kp s1, ⟨m1 + 1, fun j i hj hi => ?_⟩, h2⟩
      obtain ⟨i, rfl⟩ : ∃ i', i = i' + 1 := ⟨i - 1, by omega⟩
      have e1 := h1 j (by omega)
      simp only at e1
      unfold aloop
      rw [e1]

theorem hasLabel_mem {l : Nat} : ∀ {c : Code}, hasLabel l c = true → l ∈ labelsOf c := by
  intro c
  induction c with
  | seq a b iha ihb =>
    intro h
    simp only [hasLabel, Bool.or_eq_true] at h
    simp only [labelsOf, List.mem_append]
    exact h.imp iha ihb
  | label l' =>
    intro h
    simp only [hasLabel] at h
    have := Nat.eq_of_beq_eq_true h
    simp [labelsOf, this]
  | _ => intro h; simp [hasLabel] at h

theorem agotoK_ok {has : Nat → Bool} {ls : Nat → Option LoopF} {pos p : Nat} {kp : Keep} {frm : Nat → St → (Ex → St → Option β) → Option β} {run : Nat → Nat → St → Option (Ex × St)}
    (hls : ∀ l F, has l = true → ls (labKey pos l) = some F → ∀ s e s', (true, e, s') ∈ F p s → ∃ m, ∀ j i, m ≤ j → m ≤ i → agoto p kp (run j) i l s = some (e, s'))
    (hb : ∀ l s k, frm l s k = some r → Ends (fun m => run m l s) k r) : ∀ (n l : Nat) (s : St) (k : Ex → St → Option β), agotoK has ls pos p kp frm n l s k = some r →
      ∃ e s', (∃ m, ∀ j i, m ≤ j → m ≤ i → agoto p kp (run j) i l s = some (e, s')) ∧ k e s' = some r
  | 0, l, s, k, h => by simp [agotoK] at h
  | n + 1, l, s, k, h => by
    unfold agotoK at h
    split at h
    · rename_i F hF hh
      obtain ⟨⟨e, s'⟩, h1, h2⟩ := pickK_ok h
      exact ⟨e, s', hls l F hh hF s e s' (List.mem_of_find?_eq_some h1), h2⟩
    · obtain ⟨e, s1, ⟨m1, h1⟩, h2⟩ := hb _ _ _ h
      cases e with
      | goto l' =>
        obtain ⟨e, s', ⟨m2, h3⟩, h4⟩ := agotoK_ok hls hb n _ _ _ h2
        refine ⟨e, s', ⟨m1 + m2 + 1, fun j i hj hi => ?_⟩, h4⟩
        obtain ⟨i, rfl⟩ : ∃ i', i = i' + 1 := ⟨i - 1, by omega⟩
        have e1 := h1 j (by omega)
        simp only at e1
        unfold agoto
        rw [e1]
        exact h3 j i (by omega) (by omega)
      | _ =>
        refine ⟨_, s1, ⟨m1 + 1, fun j i hj hi => ?_⟩, h2⟩
        obtain ⟨i, rfl⟩ : ∃ i', i = i' + 1 := ⟨i - 1, by omega⟩
        have e1 := h1 j (by omega)
        simp only at e1
        unfold agoto
        rw [e1]

/-- The contracts of a code's loops hold. -/
def ItemsOK (P : Program) (H : Hint) (call : Nat → CallF) (it : Nat → ItF) (ls : Nat → Option LoopF) (kp : Keep) (pos : Nat) (c : Code) : Prop :=
  ∀ x ∈ loopsOf pos c, ∀ F, ls x.1 = some F → LoopOK P H call it kp x.2 F

/-- Contracts under labels' numbers are those of labels. -/
theorem exec_from_ok {callk : CallK β} {call : Nat → CallF} {it : Nat → ItF} (hc : CallEv callk call r) {ls : Nat → Option LoopF} {n p : Nat} {kp : Keep} : ∀ (c : Code),
    (∀ (pos : Nat) (s : St) (k : Ex → St → Option β), ItemsOK P H call it ls kp pos c → execK P H callk ls n p kp pos c s k = some r → Ends (fun m => aexec P H (call m) (it m) m p kp c s) k r) ∧
    (∀ (pos l : Nat) (s : St) (k : Ex → St → Option β), ItemsOK P H call it ls kp pos c → fromK P H callk ls n p kp pos l c s k = some r → Ends (fun m => afrom P H (call m) (it m) m p kp l c s) k r) := by
  intro c
  induction c with
  | skip => exact ⟨fun pos s k hl h => ⟨.normal, s, Ev.all fun _ => by simp only [aexec], by simpa only [execK] using h⟩, fun pos l s k hl h => by simp [fromK] at h⟩
  | region id ops draw =>
    refine ⟨fun pos s k hl h => ?_, fun pos l s k hl h => by simp [fromK] at h⟩
    simp only [execK] at h
    obtain ⟨s', h1, h2⟩ := regionK_ok hc h
    exact ⟨.normal, s', h1.mono fun m hm => by simp only [aexec, hm], h2⟩
  | seq a b iha ihb =>
    refine ⟨fun pos s k hl h => ?_, fun pos l s k hl h => ?_⟩
    · simp only [execK] at h
      simp only [ItemsOK, loopsOf, List.mem_append] at hl
      obtain ⟨e, s1, h1, h2⟩ := iha.1 _ s _ (fun x hx => hl x (.inl hx)) h
      cases e with
      | normal =>
        obtain ⟨e, s', h3, h4⟩ := ihb.1 _ s1 _ (fun x hx => hl x (.inr hx)) h2
        exact ⟨e, s', (h1.and h3).mono fun m hm => by simp only [aexec, hm.1]; exact hm.2, h4⟩
      | _ => exact ⟨_, s1, h1.mono fun m hm => by simp only [aexec]; simp only at hm; rw [hm], h2⟩
    · simp only [fromK] at h
      simp only [ItemsOK, loopsOf, List.mem_append] at hl
      split at h
      · rename_i hlab
        obtain ⟨e, s1, h1, h2⟩ := iha.2 _ l s _ (fun x hx => hl x (.inl hx)) h
        cases e with
        | normal =>
          obtain ⟨e, s', h3, h4⟩ := ihb.1 _ s1 _ (fun x hx => hl x (.inr hx)) h2
          exact ⟨e, s', (h1.and h3).mono fun m hm => by simp only [afrom, hlab, hm.1]; exact hm.2, h4⟩
        | _ => exact ⟨_, s1, h1.mono fun m hm => by simp only [afrom, hlab]; simp only at hm; rw [hm], h2⟩
      · rename_i hlab
        obtain ⟨e, s', h3, h4⟩ := ihb.2 _ l s _ (fun x hx => hl x (.inr hx)) h
        exact ⟨e, s', h3.mono fun m hm => by simp only [afrom, hlab]; exact hm, h4⟩
  | cond c a b iha ihb =>
    refine ⟨fun pos s k hl h => ?_, fun pos l s k hl h => by simp [fromK] at h⟩
    simp only [execK] at h
    simp only [ItemsOK, loopsOf, List.mem_append] at hl
    split at h
    · rename_i x hx
      have hcd : ∀ b, x = b → condOf true ((tmpOf c).bind (nth? s.tm ·)) = some b ∨ (tmpOf c) = none := by
        intro b hb
        subst hb
        cases c with
        | tmp t =>
          left
          show condOf true (nth? s.tm t) = some x
          simp only [ev] at hx
          split at hx
          · split at hx <;> simp_all
          · cases hx
          · rw [hx]; simp [condOf]
        | _ => exact .inr rfl
      have hT : x = true → ∀ {γ : Type} (k : List IV → γ), fixK s.tm (tmpOf c) (fixT true) k = k s.tm := by
        intro hb γ k
        rcases hcd true hb with h | h
        · exact fixT_eq h k
        · rw [h]; rfl
      have hF : x = false → ∀ {γ : Type} (k : List IV → γ), fixK s.tm (tmpOf c) (fixF true) k = k s.tm := by
        intro hb γ k
        rcases hcd false hb with h | h
        · exact fixF_eq h k
        · rw [h]; rfl
      rcases cond_some h with ⟨rfl, h2⟩ | ⟨rfl, h2⟩
      · rw [hT rfl] at h2
        obtain ⟨e, s', h3, h4⟩ := iha.1 _ s _ (fun x hx => hl x (.inl hx)) h2
        exact ⟨e, s', h3.mono fun m hm => by simp only [aexec, hx]; exact hm, h4⟩
      · rw [hF rfl] at h2
        obtain ⟨e, s', h3, h4⟩ := ihb.1 _ s _ (fun x hx => hl x (.inr hx)) h2
        exact ⟨e, s', h3.mono fun m hm => by simp only [aexec, hx]; exact hm, h4⟩
    · cases h
  | block id b ih =>
    refine ⟨fun pos s k hl h => ?_, fun pos l s k hl h => by simp [fromK] at h⟩
    simp only [execK] at h
    simp only [ItemsOK, loopsOf] at hl
    obtain ⟨e, s1, h1, h2⟩ := ih.1 _ s _ hl h
    cases e with
    | exit i =>
      simp only at h2
      by_cases hi : i = id
      · rw [if_pos hi] at h2
        exact ⟨.normal, s1, h1.mono fun m hm => by simp only [aexec]; simp only at hm; rw [hm]; simp only [if_pos hi], h2⟩
      · rw [if_neg hi] at h2
        exact ⟨.exit i, s1, h1.mono fun m hm => by simp only [aexec]; simp only at hm; rw [hm]; simp only [if_neg hi], h2⟩
    | _ => exact ⟨_, s1, h1.mono fun m hm => by simp only [aexec]; simp only at hm; rw [hm], h2⟩
  | loop b ih =>
    refine ⟨fun pos s k hl h => ?_, fun pos l s k hl h => by simp [fromK] at h⟩
    simp only [execK] at h
    simp only [ItemsOK, loopsOf, List.mem_cons] at hl
    split at h
    · obtain ⟨e, s', ⟨m, h3⟩, h4⟩ := aloopK_ok (run := fun m s => aexec P H (call m) (it m) m p kp b s) (fun s k hk => ih.1 _ s k (fun x hx => hl x (.inr hx)) hk) _ _ _ h
      exact ⟨e, s', ⟨m, fun j hj => by simp only [aexec]; exact h3 j j hj hj⟩, h4⟩
    · rename_i F hF
      obtain ⟨⟨e, s'⟩, h1, h2⟩ := pickK_ok h
      obtain ⟨m, hm⟩ := hl (pos, .loop b) (.inl rfl) F hF p _ e s' (List.mem_of_find?_eq_some h1)
      exact ⟨e, s', ⟨m, fun j hj => by simp only [aexec]; exact hm j j hj hj⟩, h2⟩
  | exit id => exact ⟨fun pos s k hl h => ⟨.exit id, s, Ev.all fun _ => by simp only [aexec], by simpa only [execK] using h⟩, fun pos l s k hl h => by simp [fromK] at h⟩
  | label l =>
    refine ⟨fun pos s k hl h => ⟨.normal, s, Ev.all fun _ => by simp only [aexec], by simpa only [execK] using h⟩, fun pos l' s k hl h => ?_⟩
    simp only [fromK] at h
    split at h
    · rename_i e
      exact ⟨.normal, s, Ev.all fun _ => by simp only [afrom, e, if_true], h⟩
    · cases h
  | goto l => exact ⟨fun pos s k hl h => ⟨.goto l, s, Ev.all fun _ => by simp only [aexec], by simpa only [execK] using h⟩, fun pos l s k hl h => by simp [fromK] at h⟩
  | ret => exact ⟨fun pos s k hl h => ⟨.ret, s, Ev.all fun _ => by simp only [aexec], by simpa only [execK] using h⟩, fun pos l s k hl h => by simp [fromK] at h⟩
  | scope b ih =>
    refine ⟨fun pos s k hl h => ?_, fun pos l s k hl h => by simp [fromK] at h⟩
    simp only [execK] at h
    simp only [ItemsOK, loopsOf, List.mem_append] at hl
    obtain ⟨e, s1, h1, h2⟩ := ih.1 _ s _ (fun x hx => hl x (.inr hx)) h
    cases e with
    | goto l =>
      obtain ⟨e, s', ⟨m2, h3⟩, h4⟩ := agotoK_ok (run := fun m l s => afrom P H (call m) (it m) m p kp l b s) (fun l F hh hF s e s' hm => hl (labKey pos l, .lab l b) (.inl (List.mem_map.2 ⟨l, hasLabel_mem hh, rfl⟩)) F hF p s e s' hm) (fun l s k hk => ih.2 _ l s k (fun x hx => hl x (.inr hx)) hk) _ _ _ _ h2
      refine ⟨e, s', (h1.and ⟨m2, fun j hj => h3 j j hj hj⟩).mono fun m hm => ?_, h4⟩
      obtain ⟨hm1, hm2⟩ := hm
      simp only at hm1
      simp only [aexec, hm1]
      exact hm2
    | _ => exact ⟨_, s1, h1.mono fun m hm => by simp only [aexec]; simp only at hm; rw [hm], h2⟩
  | rangeFunc f ps a b iha ihb =>
    refine ⟨fun pos s k hl h => ?_, fun pos l s k hl h => by simp [fromK] at h⟩
    simp only [execK] at h
    simp only [ItemsOK, loopsOf, List.mem_singleton] at hl
    split at h
    · rename_i F hF
      obtain ⟨⟨e, s'⟩, h1, h2⟩ := pickK_ok h
      obtain ⟨m, hm⟩ := hl (pos, .rf f ps a b) rfl F hF p _ e s' (List.mem_of_find?_eq_some h1)
      exact ⟨e, s', ⟨m, fun j hj => by simp only [aexec]; exact hm j j hj hj⟩, h2⟩
    · cases h
  | refuse why => exact ⟨fun pos s k hl h => by simp [execK] at h, fun pos l s k hl h => by simp [fromK] at h⟩

/-- Contracts as functions that a caller takes in the functions' place. -/
def ovrOf (spec : FuncId → Option SpecF) : FuncId → Option CallF := fun f => (spec f).map fun F => fun _ as T => ((F as T).find? (·.1)).map (·.2)

/-- All loops' contracts hold. -/
def LoopsOK (P : Program) (H : Hint) (call : Nat → CallF) (ls : FuncId → Nat → Option LoopF) : Prop :=
  ∀ (f : FuncId) (fn : Func) (c : Code), P.funcs[f]? = some fn → fn.body = some c → ∀ x ∈ loopsOf 1 c, ∀ F, ls f x.1 = some F → LoopOK P H call (fun m => aiter P H (call m) m) (H.kp f) x.2 F

theorem callK_ok {spec : FuncId → Option SpecF} {ls : FuncId → Nat → Option LoopF} (hls : LoopsOK P H (acall P H (ovrOf spec)) ls) : ∀ (n : Nat), CallEv (β := β) (callK P H spec ls n) (acall P H (ovrOf spec)) r
  | 0 => fun f as T k h => by simp [callK] at h
  | n + 1 => fun f as T k h => by
    have ih := callK_ok hls n
    unfold callK at h
    have step : ∀ {v : IV} {T1 : List Blk}, (∃ m, ∀ j, m ≤ j → acall P H (ovrOf spec) (j + 1) f as T = some (v, T1)) → Ev fun m => acall P H (ovrOf spec) m f as T = some (v, T1) := by
      rintro v T1 ⟨m, h⟩
      refine ⟨m + 1, fun j hj => ?_⟩
      obtain ⟨i, rfl⟩ : ∃ i, j = i + 1 := ⟨j - 1, by omega⟩
      exact h i (by omega)
    split at h
    · rename_i F hF
      obtain ⟨⟨v, T1⟩, h1, h2⟩ := pickK_ok h
      refine ⟨v, T1, step ⟨0, fun j _ => ?_⟩, h2⟩
      simp only [acall, ovrOf, hF, Option.map_some, h1]
    · rename_i hF
      split at h
      · rename_i fn hfn
        split at h
        · rename_i c hcb
          obtain ⟨e, s, ⟨m, h1⟩, h2⟩ := (exec_from_ok (it := fun m => aiter P H (acall P H (ovrOf spec) m) m) ih c).1 1 _ _ (hls f fn c hfn hcb) h
          have key : ∀ rs, (e = .normal ∨ e = .ret) → resOf P H s fn.results.toList = some rs → Ev fun m => acall P H (ovrOf spec) m f as T = some (finish (H.kp f).bp T.length (one rs) s.bx) := by
            intro rs he hrs
            refine step ⟨m, fun j hj => ?_⟩
            have h3 := h1 j hj
            simp only at h3
            simp only [acall, ovrOf, hF, Option.map_none, hfn, hcb]
            erw [h3]
            rcases he with rfl | rfl <;> simp only [hrs] <;> rfl
          dsimp only at h2
          split at h2
          · split at h2
            · rename_i rs hrs
              exact ⟨_, _, key rs (.inl rfl) hrs, h2⟩
            · cases h2
          · split at h2
            · rename_i rs hrs
              exact ⟨_, _, key rs (.inr rfl) hrs, h2⟩
            · cases h2
          · cases h2
        · cases h
      · cases h

/-! ### Contracts -/
/-- A function's contract is known to hold. -/
def Known (P : Program) (H : Hint) (f : FuncId) (F : SpecF) : Prop := CallOK P H fun g as T => if g = f then ((F as T).find? (·.1)).map (·.2) else none

theorem ovr_ok {spec : FuncId → Option SpecF} (h : ∀ f F, spec f = some F → Known P H f F) : OvrOK P H (ovrOf spec) := by
  intro f F hF
  unfold ovrOf at hF
  obtain ⟨G, hG, rfl⟩ := Option.map_eq_some_iff.1 hF
  exact h f G hG

/-- A program that the ideal machine serves. -/
structure Fits (P : Program) : Prop where
  order : P.follows .mixedOrders = true
  small : P.funcs.size ≤ YID
  quiet : ∀ (f : FuncId) (fn : Func), P.funcs[f]? = some fn → fn.body.isSome = true → fn.name ≠ "runtime.NumGoroutine"

/-- A contract of a function, out of its body and what is known of others. -/
theorem known_of (hP : Fits P) {spec : FuncId → Option SpecF} (hs : ∀ f F, spec f = some F → Known P H f F) {ls : FuncId → Nat → Option LoopF} (hls : LoopsOK P H (acall P H (ovrOf spec)) ls)
    {f : FuncId} {F : SpecF} (h : ∀ as T v T1, (true, v, T1) ∈ F as T → ∃ n, callK P H spec ls n f as T (fun v T => some (v, T)) = some (v, T1)) : Known P H f F := by
  intro g as T r T1 hr
  simp only at hr
  split at hr
  · rename_i hg
    subst hg
    obtain ⟨⟨t, v, T2⟩, hF, e⟩ := Option.map_eq_some_iff.1 hr
    · cases e
      have ht := List.find?_some hF
      simp only at ht
      subst ht
      obtain ⟨n, hn⟩ := h as T _ _ (List.mem_of_find?_eq_some hF)
      obtain ⟨v, T2, ⟨m, hm⟩, h2⟩ := callK_ok hls n _ _ _ _ hn
      cases h2
      exact sound hP.order hP.small hP.quiet (ovr_ok hs) m g as T _ _ (hm m (Nat.le_refl _))
  · cases hr

theorem loops_none {spec : FuncId → Option SpecF} : LoopsOK P H (acall P H (ovrOf spec)) (fun _ _ => none) := fun _ _ _ _ _ _ _ F hF => by cases hF

/-- A table of contracts. -/
def tab (l : List (FuncId × SpecF)) : FuncId → Option SpecF := fun f => l.lookup f
theorem tab_nil : ∀ f F, tab [] f = some F → Known P H f F := fun f F h => by cases h
theorem tab_cons {f : FuncId} {F : SpecF} {l : List (FuncId × SpecF)} (h : Known P H f F) (hl : ∀ g G, tab l g = some G → Known P H g G) : ∀ g G, tab ((f, F) :: l) g = some G → Known P H g G := by
  intro g G hg
  simp only [tab, List.lookup_cons] at hg
  split at hg
  · rename_i e
    cases hg
    have : g = f := by simpa using e
    subst this
    exact h
  · exact hl g G hg

/-- A LAW'S ANSWER, out of its body and what is known. -/
theorem law_run {spec : FuncId → Option SpecF} {ls : FuncId → Nat → Option LoopF} (hls : LoopsOK P H (acall P H (ovrOf spec)) ls) {f : FuncId} {as : List IV} {b : Bool} {n : Nat}
    (h : callK P H spec ls n f as [] (fun v T => some (v, T)) = some (.bool b, [])) : ∃ k, acall P H (ovrOf spec) k f as [] = some (.bool b, []) := by
  obtain ⟨v, T2, ⟨m, hm⟩, h2⟩ := callK_ok hls n _ _ _ _ h
  cases h2
  exact ⟨m, hm m (Nat.le_refl _)⟩
end
end Go.Im

namespace Go.Im
open Go
set_option linter.unusedVariables false
set_option linter.unusedSimpArgs false
set_option linter.unnecessarySimpa false
set_option linter.unusedSectionVars false

end Go.Im

namespace Go.Im
open Go
set_option linter.unusedVariables false
set_option linter.unusedSimpArgs false
set_option linter.unnecessarySimpa false
set_option linter.unusedSectionVars false

/-- A function's code. -/
def codeOf (P : Program) (f : FuncId) : Code := ((P.funcs[f]?).bind (·.body)).getD .skip
/-- What stands at a place. -/
def itemAt (P : Program) (f : FuncId) (q : Nat) : LItem := ((loopsOf 1 (codeOf P f)).lookup q).getD default
def LItem.code : LItem → Code
  | .loop b => b
  | .lab _ b => b
  | .rf _ _ _ b => b
def LItem.isLoop : LItem → Bool
  | .loop _ => true
  | _ => false
/-- A loop's body, by its place. -/
def loopAt (P : Program) (f : FuncId) (q : Nat) : Code := (itemAt P f q).code
/-- The functions that loops go over, of a family of machines. -/
noncomputable abbrev itOf (P : Program) (H : Hint) (call : Nat → CallF) : Nat → ItF := fun m => aiter P H (call m) m

/-- Behind a part of a scope: ahead of the next jump, if there is one. -/
noncomputable def endN (p : Nat) (kp : Keep) (e : Ex) (s : St) : St := match e with
  | .goto _ => norm p kp s
  | _ => s
noncomputable section
variable (P : Program) (H : Hint)
/-- One round of a loop. -/
def roundK (spec : FuncId → Option SpecF) (ls : FuncId → Nat → Option LoopF) (n p : Nat) (f : FuncId) (q : Nat) (s : St) : Option (Ex × St) :=
  execK P H (callK P H spec ls n) (ls f) n p (H.kp f) (2 * q) (loopAt P f q) s fun e s => some (e, norm p (H.kp f) s)
/-- From a label on, to its scope's end or to the next jump. -/
def passK (spec : FuncId → Option SpecF) (ls : FuncId → Nat → Option LoopF) (n p : Nat) (f : FuncId) (pos l : Nat) (s : St) : Option (Ex × St) :=
  fromK P H (callK P H spec ls n) (ls f) n p (H.kp f) (2 * pos) l (loopAt P f (labKey pos l)) s fun e s => some (e, endN p (H.kp f) e s)
end

section
variable {P : Program} {H : Hint}
/-- One round. -/
def Rnd (run : Nat → St → Option (Ex × St)) (p : Nat) (kp : Keep) (s : St) (e : Ex) (s' : St) : Prop := ∃ s1, Ev (fun m => run m s = some (e, s1)) ∧ norm p kp s1 = s'
/-- A loop runs on from a state and ends so. -/
def RunsG (run : Nat → St → Option (Ex × St)) (p : Nat) (kp : Keep) (s : St) (e : Ex) (s' : St) : Prop := ∃ m, ∀ j i, m ≤ j → m ≤ i → aloop p kp (run j) i s = some (e, s')
noncomputable abbrev runOf (P : Program) (H : Hint) (call : Nat → CallF) (p : Nat) (kp : Keep) (b : Code) : Nat → St → Option (Ex × St) := fun j s => aexec P H (call j) (aiter P H (call j) j) j p kp b s
abbrev Runs (P : Program) (H : Hint) (call : Nat → CallF) (p : Nat) (kp : Keep) (b : Code) (s : St) (e : Ex) (s' : St) : Prop := RunsG (runOf P H call p kp b) p kp s e s'

theorem RunsG.step {run : Nat → St → Option (Ex × St)} {p : Nat} {kp : Keep} {s s1 s' : St} {e : Ex} (h : Rnd run p kp s .normal s1) (hr : RunsG run p kp s1 e s') : RunsG run p kp s e s' := by
  obtain ⟨s2, ⟨m1, h1⟩, h2⟩ := h
  obtain ⟨m2, h3⟩ := hr
  refine ⟨m1 + m2 + 1, fun j i hj hi => ?_⟩
  obtain ⟨i, rfl⟩ : ∃ i', i = i' + 1 := ⟨i - 1, by omega⟩
  unfold aloop
  rw [h1 j (by omega)]
  simp only [h2]
  exact h3 j i (by omega) (by omega)
theorem RunsG.last {run : Nat → St → Option (Ex × St)} {p : Nat} {kp : Keep} {s s' : St} {e : Ex} (he : e ≠ .normal) (h : Rnd run p kp s e s') : RunsG run p kp s e s' := by
  obtain ⟨s2, ⟨m1, h1⟩, h2⟩ := h
  refine ⟨m1 + 1, fun j i hj hi => ?_⟩
  obtain ⟨i, rfl⟩ : ∃ i', i = i' + 1 := ⟨i - 1, by omega⟩
  unfold aloop
  have h3 := h1 j (by omega)
  cases e with
  | normal => exact absurd rfl he
  | _ =>
    rw [h3]
    simp only [h2]

theorem roundK_run {spec : FuncId → Option SpecF} {ls : FuncId → Nat → Option LoopF} (hls : LoopsOK P H (acall P H (ovrOf spec)) ls) {f : FuncId} {q p n : Nat}
    (hin : ItemsOK P H (acall P H (ovrOf spec)) (itOf P H (acall P H (ovrOf spec))) (ls f) (H.kp f) (2 * q) (loopAt P f q)) {s : St} {e : Ex} {s' : St}
    (h : roundK P H spec ls n p f q s = some (e, s')) : Rnd (runOf P H (acall P H (ovrOf spec)) p (H.kp f) (loopAt P f q)) p (H.kp f) s e s' := by
  unfold roundK at h
  obtain ⟨e1, s1, h1, h2⟩ := (exec_from_ok (it := itOf P H (acall P H (ovrOf spec))) (callK_ok hls n) _).1 _ _ _ hin h
  simp only [Option.some.injEq, Prod.mk.injEq] at h2
  obtain ⟨rfl, h2⟩ := h2
  exact ⟨s1, h1, h2⟩

/-- One round, and on. -/
theorem Runs.step {spec : FuncId → Option SpecF} {ls : FuncId → Nat → Option LoopF} (hls : LoopsOK P H (acall P H (ovrOf spec)) ls) {f : FuncId} {q p n : Nat}
    (hin : ItemsOK P H (acall P H (ovrOf spec)) (itOf P H (acall P H (ovrOf spec))) (ls f) (H.kp f) (2 * q) (loopAt P f q)) {s s1 s' : St} {e : Ex}
    (h : roundK P H spec ls n p f q s = some (.normal, s1)) (hr : Runs P H (acall P H (ovrOf spec)) p (H.kp f) (loopAt P f q) s1 e s') : Runs P H (acall P H (ovrOf spec)) p (H.kp f) (loopAt P f q) s e s' :=
  RunsG.step (roundK_run hls hin h) hr
/-- The last round. -/
theorem Runs.last {spec : FuncId → Option SpecF} {ls : FuncId → Nat → Option LoopF} (hls : LoopsOK P H (acall P H (ovrOf spec)) ls) {f : FuncId} {q p n : Nat}
    (hin : ItemsOK P H (acall P H (ovrOf spec)) (itOf P H (acall P H (ovrOf spec))) (ls f) (H.kp f) (2 * q) (loopAt P f q)) {s s' : St} {e : Ex} (he : e ≠ .normal)
    (h : roundK P H spec ls n p f q s = some (e, s')) : Runs P H (acall P H (ovrOf spec)) p (H.kp f) (loopAt P f q) s e s' :=
  RunsG.last he (roundK_run hls hin h)

/-- From a label on, to the end. -/
def Goes (P : Program) (H : Hint) (call : Nat → CallF) (p : Nat) (kp : Keep) (l : Nat) (b : Code) (s : St) (e : Ex) (s' : St) : Prop :=
  ∃ m, ∀ j i, m ≤ j → m ≤ i → agoto p kp (fun l s => afrom P H (call j) (aiter P H (call j) j) j p kp l b s) i l s = some (e, s')
theorem passK_run {spec : FuncId → Option SpecF} {ls : FuncId → Nat → Option LoopF} (hls : LoopsOK P H (acall P H (ovrOf spec)) ls) {f : FuncId} {pos l p n : Nat}
    (hin : ItemsOK P H (acall P H (ovrOf spec)) (itOf P H (acall P H (ovrOf spec))) (ls f) (H.kp f) (2 * pos) (loopAt P f (labKey pos l))) {s : St} {e : Ex} {s' : St}
    (h : passK P H spec ls n p f pos l s = some (e, s')) :
    ∃ s1, Ev (fun m => afrom P H (acall P H (ovrOf spec) m) (itOf P H (acall P H (ovrOf spec)) m) m p (H.kp f) l (loopAt P f (labKey pos l)) s = some (e, s1)) ∧ endN p (H.kp f) e s1 = s' := by
  unfold passK at h
  obtain ⟨e1, s1, h1, h2⟩ := (exec_from_ok (it := itOf P H (acall P H (ovrOf spec))) (callK_ok hls n) _).2 _ _ _ _ hin h
  simp only [Option.some.injEq, Prod.mk.injEq] at h2
  obtain ⟨rfl, h2⟩ := h2
  exact ⟨s1, h1, h2⟩
/-- A jump, and on. -/
theorem Goes.step {spec : FuncId → Option SpecF} {ls : FuncId → Nat → Option LoopF} (hls : LoopsOK P H (acall P H (ovrOf spec)) ls) {f : FuncId} {pos l p n : Nat}
    (hin : ItemsOK P H (acall P H (ovrOf spec)) (itOf P H (acall P H (ovrOf spec))) (ls f) (H.kp f) (2 * pos) (loopAt P f (labKey pos l))) {s s1 s' : St} {e : Ex} {l' : Nat}
    (h : passK P H spec ls n p f pos l s = some (.goto l', s1)) (hr : Goes P H (acall P H (ovrOf spec)) p (H.kp f) l' (loopAt P f (labKey pos l)) s1 e s') : Goes P H (acall P H (ovrOf spec)) p (H.kp f) l (loopAt P f (labKey pos l)) s e s' := by
  obtain ⟨s2, ⟨m1, h1⟩, h2⟩ := passK_run hls hin h
  obtain ⟨m2, h3⟩ := hr
  refine ⟨m1 + m2 + 1, fun j i hj hi => ?_⟩
  obtain ⟨i, rfl⟩ : ∃ i', i = i' + 1 := ⟨i - 1, by omega⟩
  unfold agoto
  have := h1 j (by omega)
  simp only [endN] at this h2
  rw [this]
  simp only [h2]
  exact h3 j i (by omega) (by omega)
theorem Goes.last {spec : FuncId → Option SpecF} {ls : FuncId → Nat → Option LoopF} (hls : LoopsOK P H (acall P H (ovrOf spec)) ls) {f : FuncId} {pos l p n : Nat}
    (hin : ItemsOK P H (acall P H (ovrOf spec)) (itOf P H (acall P H (ovrOf spec))) (ls f) (H.kp f) (2 * pos) (loopAt P f (labKey pos l))) {s s' : St} {e : Ex} (he : ∀ l', e ≠ .goto l')
    (h : passK P H spec ls n p f pos l s = some (e, s')) : Goes P H (acall P H (ovrOf spec)) p (H.kp f) l (loopAt P f (labKey pos l)) s e s' := by
  obtain ⟨s2, ⟨m1, h1⟩, h2⟩ := passK_run hls hin h
  refine ⟨m1 + 1, fun j i hj hi => ?_⟩
  obtain ⟨i, rfl⟩ : ∃ i', i = i' + 1 := ⟨i - 1, by omega⟩
  unfold agoto
  have := h1 j (by omega)
  simp only at this h2
  rw [this]
  cases e with
  | goto l' => exact absurd rfl (he l')
  | _ => simp only [endN] at h2; rw [h2]

/-- A table of loops' contracts: the function, the loop's place, the contract. -/
def ltab : List (FuncId × Nat × LoopF) → FuncId → Nat → Option LoopF
  | [] => fun _ _ => none
  | (f, q, F) :: l => fun g r => match Nat.beq g f && Nat.beq r q with
    | true => some F
    | false => ltab l g r

/-- No two loops of a function have one place. -/
def onceB : List Nat → Bool
  | [] => true
  | x :: xs => !(xs.contains x) && onceB xs
def placesB (P : Program) (f : FuncId) : Bool := onceB ((loopsOf 1 (codeOf P f)).map (·.1))

theorem lookup_once : ∀ (l : List (Nat × LItem)) (q : Nat) (b : LItem), onceB (l.map (·.1)) = true → (q, b) ∈ l → l.lookup q = some b
  | [], _, _, _, h => by cases h
  | (r, c) :: l, q, b, ho, h => by
    simp only [List.map_cons, onceB, Bool.and_eq_true, Bool.not_eq_true'] at ho
    rcases List.mem_cons.1 h with h' | h'
    · cases h'
      simp
    · have : q ≠ r := by
        intro e
        subst e
        have : (l.map (·.1)).contains q = true := by
          rw [List.contains_iff_mem]
          exact List.mem_map.2 ⟨(q, b), h', rfl⟩
        rw [this] at ho
        cases ho.1
      rw [List.lookup_cons]
      have hb : (q == r) = false := by simpa using this
      rw [hb]
      exact lookup_once l q b ho.2 h'

theorem ltab_nil {call : Nat → CallF} : LoopsOK P H call (ltab []) := fun _ _ _ _ _ _ _ F hF => by cases hF
theorem ltab_cons {call : Nat → CallF} {f : FuncId} {q : Nat} {F : LoopF} {l : List (FuncId × Nat × LoopF)} (hp : placesB P f = true) (h : LoopOK P H call (itOf P H call) (H.kp f) (itemAt P f q) F)
    (hl : LoopsOK P H call (ltab l)) : LoopsOK P H call (ltab ((f, q, F) :: l)) := by
  intro g fn c hg hc x hx G hG
  simp only [ltab] at hG
  split at hG
  · rename_i hb
    cases hG
    simp only [Bool.and_eq_true] at hb
    obtain ⟨hg', hq⟩ := hb
    obtain rfl := Nat.eq_of_beq_eq_true hg'
    have hq := Nat.eq_of_beq_eq_true hq
    have hcode : codeOf P g = c := by simp [codeOf, hg, hc]
    have : itemAt P g q = x.2 := by
      unfold itemAt
      rw [hcode, ← hq, lookup_once _ x.1 x.2 (by rw [← hcode]; exact hp) hx]
      rfl
    rw [← this]
    exact h
  · exact hl g fn c hg hc x hx G hG
/-! ### States by their live slots -/
/-- Slots of which those at some places hold values, and the others nothing. -/
def spread : List Nat → Nat → Nat → List IV → List IV
  | _, _, 0, _ => []
  | [], _, n + 1, _ => .undef :: spread [] 0 n []
  | k :: ks, i, n + 1, vs => match Nat.beq k i with
    | true => (vs.headD .undef) :: spread ks (i + 1) n vs.tail
    | false => .undef :: spread (k :: ks) (i + 1) n vs
def isUndef : IV → Bool
  | .undef => true
  | _ => false
def gather : List Nat → Nat → List IV → Option (List IV)
  | _, _, [] => some []
  | [], i, x :: xs => match isUndef x with
    | true => gather [] (i + 1) xs
    | false => none
  | k :: ks, i, x :: xs => match Nat.beq k i with
    | true => (gather ks (i + 1) xs).map fun vs => x :: vs
    | false => match isUndef x with
      | true => gather (k :: ks) (i + 1) xs
      | false => none
theorem isUndef_eq {x : IV} (h : isUndef x = true) : x = .undef := by cases x <;> simp [isUndef] at h; rfl
theorem spread_nil : ∀ (n i j : Nat) (vs ws : List IV), spread [] i n vs = spread [] j n ws
  | 0, _, _, _, _ => by simp [spread]
  | n + 1, _, _, _, _ => by simp [spread]
theorem spread_gather : ∀ (tm : List IV) (ks : List Nat) (i : Nat) (vs : List IV), gather ks i tm = some vs → spread ks i tm.length vs = tm
  | [], ks, i, vs, _ => by simp [spread]
  | x :: xs, [], i, vs, h => by
    simp only [gather] at h
    split at h
    · rename_i hx
      have := spread_gather xs [] (i + 1) vs h
      simp only [List.length_cons, spread]
      rw [isUndef_eq hx, spread_nil _ 0 (i + 1) [] vs, this]
    · cases h
  | x :: xs, k :: ks, i, vs, h => by
    simp only [gather] at h
    split at h
    · rename_i hk
      obtain ⟨ws, h1, rfl⟩ := Option.map_eq_some_iff.1 h
      simp only [List.length_cons, spread, hk, List.headD_cons, List.tail_cons]
      rw [spread_gather xs ks (i + 1) ws h1]
    · rename_i hk
      split at h
      · rename_i hx
        simp only [List.length_cons, spread, hk]
        rw [spread_gather xs (k :: ks) (i + 1) vs h, isUndef_eq hx]
      · cases h

/-- A state at a loop of a function: what its live slots hold, and the blocks. -/
def stAt (P : Program) (H : Hint) (f : FuncId) (vs : List IV) (bx : List Blk) : St := ⟨spread (H.kp f).ks 0 (((P.funcs[f]?).map (·.ntmps)).getD 0) vs, bx⟩
/-- A loop's contract over live slots. -/
abbrev LiveF := List IV → List Blk → List (Bool × Ex × List IV × List Blk)
def loopF (P : Program) (H : Hint) (f : FuncId) (p0 : Nat) (G : LiveF) : LoopF := fun p s => match Nat.beq p p0 && Nat.beq s.tm.length (((P.funcs[f]?).map (·.ntmps)).getD 0), gather (H.kp f).ks 0 s.tm with
  | true, some vs => (G vs s.bx).map fun x => (x.1, x.2.1, stAt P H f x.2.2.1 x.2.2.2)
  | _, _ => []

theorem loopF_at {call : Nat → CallF} {it : Nat → ItF} {f : FuncId} {p0 : Nat} {x : LItem} {G : LiveF}
    (h : ∀ vs bx e vs' bx', (true, e, vs', bx') ∈ G vs bx → ∃ m, ∀ j i, m ≤ j → m ≤ i → itemRun P H (call j) (it j) (H.kp f) p0 j i x (stAt P H f vs bx) = some (e, stAt P H f vs' bx')) : LoopOK P H call it (H.kp f) x (loopF P H f p0 G) := by
  intro p s e s' hm
  unfold loopF at hm
  split at hm
  · rename_i vs hb hg
    simp only [Bool.and_eq_true] at hb
    have hp := Nat.eq_of_beq_eq_true hb.1
    have hl := Nat.eq_of_beq_eq_true hb.2
    subst hp
    obtain ⟨⟨t, e1, vs', bx'⟩, h1, h2⟩ := List.mem_map.1 hm
    simp only [Prod.mk.injEq] at h2
    obtain ⟨rfl, rfl, rfl⟩ := h2
    have hs : s = stAt P H f vs s.bx := by
      obtain ⟨tm, bx⟩ := s
      simp only [stAt, St.mk.injEq, and_true]
      rw [← hl]
      exact (spread_gather tm (H.kp f).ks 0 vs hg).symm
    rw [hs]
    exact h vs s.bx e1 vs' bx' h1
  · cases hm
theorem loopF_ok {call : Nat → CallF} {f : FuncId} {q p0 : Nat} {G : LiveF}
    (h : ∀ vs bx e vs' bx', (true, e, vs', bx') ∈ G vs bx → Runs P H call p0 (H.kp f) (loopAt P f q) (stAt P H f vs bx) e (stAt P H f vs' bx')) (hl : (itemAt P f q).isLoop = true := by kernel_rfl) : LoopOK P H call (itOf P H call) (H.kp f) (itemAt P f q) (loopF P H f p0 G) := by
  refine loopF_at fun vs bx e vs' bx' hm => ?_
  have := h vs bx e vs' bx' hm
  unfold loopAt at this
  cases hi : itemAt P f q with
  | loop b => rw [hi] at this; exact this
  | _ => rw [hi] at hl; cases hl
end
end Go.Im

namespace Go.Im
open Go
set_option linter.unusedVariables false
set_option linter.unusedSimpArgs false
set_option linter.unnecessarySimpa false
set_option linter.unusedSectionVars false

def isInts (k : IntKind) : List IV → Bool
  | [] => true
  | x :: xs => isOf (.i k) x && isInts k xs
def toInts : List IV → List Int := List.map intOf
theorem isInts_eq {k : IntKind} : ∀ {l : List IV}, isInts k l = true → l = (toInts l).map (IV.int k)
  | [], _ => rfl
  | x :: xs, h => by
    simp only [isInts, Bool.and_eq_true] at h
    have := (mkOf_eq h.1).1
    simp only [toInts, List.map_cons, List.cons.injEq]
    refine ⟨?_, isInts_eq h.2⟩
    simpa [mkOf] using this.symm
theorem isInts_map (k : IntKind) (zs : List Int) : isInts k (zs.map (IV.int k)) = true := by
  induction zs with
  | nil => rfl
  | cons z zs ih => simp [isInts, isOf, ih]
theorem isOf_int {k : IntKind} {n : Int} : isOf (.i k) (.int k n) = true := by simp [isOf]
/-- The first number below another one for which something holds; that one, if there is none. -/
def firstOf (bad : Nat → Bool) (n : Nat) : Nat := (List.range n).findIdx bad
theorem firstOf_eq {bad : Nat → Bool} {n i : Nat} (hi : i < n) (hb : bad i = true) (hj : ∀ j, j < i → bad j = false) : firstOf bad n = i := by
  unfold firstOf
  rw [List.findIdx_eq (by simpa using hi)]
  simp only [List.getElem_range]
  exact ⟨hb, fun j h => hj j h⟩
/-- A contract of a function, each call of which may lean on what it needs. -/
theorem known_any {P : Program} {H : Hint} (hP : Fits P) {f : FuncId} {F : SpecF}
    (h : ∀ xs T v T1, (true, v, T1) ∈ F xs T → ∃ (spec : FuncId → Option SpecF) (ls : FuncId → Nat → Option LoopF), (∀ f F, spec f = some F → Known P H f F) ∧ LoopsOK P H (acall P H (ovrOf spec)) ls ∧ ∃ n, callK P H spec ls n f xs T (fun v T => some (v, T)) = some (v, T1)) : Known P H f F := by
  intro g xs T r T1 hr
  simp only at hr
  split at hr
  · rename_i hg
    subst hg
    obtain ⟨⟨t, v, T2⟩, hF, e⟩ := Option.map_eq_some_iff.1 hr
    · cases e
      have ht := List.find?_some hF
      simp only at ht
      subst ht
      obtain ⟨spec, ls, hs, hls, n, hn⟩ := h xs T _ _ (List.mem_of_find?_eq_some hF)
      obtain ⟨v, T2, ⟨m, hm⟩, h2⟩ := callK_ok hls n _ _ _ _ hn
      cases h2
      exact sound hP.order hP.small hP.quiet (ovr_ok hs) m g xs T _ _ (hm m (Nat.le_refl _))
  · cases hr
end Go.Im

namespace Go.Im
open Go
set_option linter.unusedVariables false
set_option linter.unusedSimpArgs false
set_option linter.unnecessarySimpa false
set_option linter.unusedSectionVars false

section
variable {P : Program} {H : Hint}
noncomputable def bodyK {β : Type} (P : Program) (H : Hint) (spec : FuncId → Option SpecF) (ls : FuncId → Nat → Option LoopF) (n : Nat) : CallK β := fun f xs T k => match P.funcs[f]? with
  | some fn => match fn.body with
    | some c => execK P H (callK P H spec ls n) (ls f) n T.length (H.kp f) 1 c { tm := xs ++ List.replicate (fn.ntmps - xs.length) .undef, bx := T } fun e s => match e with
      | .normal => (match resOf P H s fn.results.toList with
        | some rs => let r := finish (H.kp f).bp T.length (one rs) s.bx; k r.1 r.2
        | none => none)
      | .ret => (match resOf P H s fn.results.toList with
        | some rs => let r := finish (H.kp f).bp T.length (one rs) s.bx; k r.1 r.2
        | none => none)
      | _ => none
    | none => none
  | none => none
theorem bodyK_ok {β : Type} {r : β} {spec : FuncId → Option SpecF} {ls : FuncId → Nat → Option LoopF} (hls : LoopsOK P H (acall P H (ovrOf spec)) ls) {n : Nat} {f : FuncId} {xs : List IV} {T : List Blk} {k : IV → List Blk → Option β}
    (h : bodyK P H spec ls n f xs T k = some r) : ∃ v T1, (∃ m, ∀ j, m ≤ j → bodyF P H (acall P H (ovrOf spec) j) j f xs T = some (v, T1)) ∧ k v T1 = some r := by
  unfold bodyK at h
  split at h
  · rename_i fn hfn
    split at h
    · rename_i c hcb
      obtain ⟨e, s, ⟨m, h1⟩, h2⟩ := (exec_from_ok (it := fun m => aiter P H (acall P H (ovrOf spec) m) m) (callK_ok hls n) c).1 1 _ _ (hls f fn c hfn hcb) h
      have key : ∀ rs, (e = .normal ∨ e = .ret) → resOf P H s fn.results.toList = some rs → ∃ m, ∀ j, m ≤ j → bodyF P H (acall P H (ovrOf spec) j) j f xs T = some (finish (H.kp f).bp T.length (one rs) s.bx) := by
        intro rs he hrs
        refine ⟨m, fun j hj => ?_⟩
        have h3 := h1 j hj
        simp only at h3
        simp only [bodyF, hfn, hcb]
        erw [h3]
        rcases he with rfl | rfl <;> simp only [hrs]
      dsimp only at h2
      split at h2
      · split at h2
        · rename_i rs hrs
          exact ⟨_, _, key rs (.inl rfl) hrs, h2⟩
        · cases h2
      · split at h2
        · rename_i rs hrs
          exact ⟨_, _, key rs (.inr rfl) hrs, h2⟩
        · cases h2
      · cases h2
    · cases h
  · cases h
end
end Go.Im

namespace Go.Im
open Go
set_option linter.unusedVariables false
set_option linter.unusedSimpArgs false
set_option linter.unnecessarySimpa false
set_option linter.unusedSectionVars false

/-! ### Less said -/
/-- What one value says of the machine's, another one says, too. -/
def Wk (x y : IV) : Prop := ∀ (Γ : Cx) (w : World) (v : Value), Rep Γ w x v → Rep Γ w y v
def WkL (xs ys : List IV) : Prop := ∀ (Γ : Cx) (w : World) (vs : List Value), RepL Γ w xs vs → RepL Γ w ys vs
theorem Wk.refl (x : IV) : Wk x x := fun _ _ _ h => h
theorem WkL.nil : WkL [] [] := fun _ _ _ h => h
theorem WkL.cons {x y : IV} {xs ys : List IV} (h : Wk x y) (k : WkL xs ys) : WkL (x :: xs) (y :: ys) := by
  intro Γ w vs hr
  simp only [RepL] at hr ⊢
  obtain ⟨v, us, e, h1, h2⟩ := hr
  exact ⟨v, us, e, h Γ w v h1, k Γ w us h2⟩
theorem Wk.tup {xs ys : List IV} (h : WkL xs ys) : Wk (.tup xs) (.tup ys) := by
  intro Γ w v hr
  simp only [Rep] at hr ⊢
  obtain ⟨vs, e, hl⟩ := hr
  exact ⟨vs, e, h Γ w vs hl⟩
theorem Wk.agg {xs ys : List IV} (h : WkL xs ys) : Wk (.agg xs) (.agg ys) := by
  intro Γ w v hr
  simp only [Rep] at hr ⊢
  obtain ⟨vs, e, hl⟩ := hr
  exact ⟨vs, e, h Γ w vs hl⟩
/-- A slice of which less is said: nil or not, cut or not; an empty one has no elements' size. -/
theorem Wk.fsl {nl nl' : Option Bool} {cl cl' : Bool} {z z' : Nat} {l l' : List IV} (hl : l = l') (hn : nl' = none ∨ nl' = nl) (hc : cl' = true → cl = true) (hz : z' = z ∨ l = []) : Wk (.fsl nl cl z l) (.fsl nl' cl' z' l') := by
  subst hl
  intro Γ w v hr
  simp only [Rep, RepC] at hr ⊢
  obtain ⟨A, c, e, h1, h2, h3, h4, h5⟩ := hr
  refine ⟨A, c, e, h1, fun h => h2 (hc h), ?_, ?_, ?_⟩
  · rcases hn with rfl | rfl
    · intro h; cases h
    · exact h3
  · rcases hn with rfl | rfl
    · intro h; cases h
    · exact h4
  · rcases hz with rfl | rfl
    · exact h5
    · exact .inl rfl

/-- Whatever values arguments stand for, one of some others stands for them. -/
def Splits (xs : List IV) (alts : List (List IV)) : Prop := ∀ (Γ : Cx) (w : World) (vs : List Value), RepL Γ w xs vs → ∃ ys ∈ alts, RepL Γ w ys vs
theorem Splits.self (xs : List IV) : Splits xs [xs] := fun _ _ _ h => ⟨xs, List.mem_singleton.2 rfl, h⟩
theorem rep_nil_or {Γ : Cx} {w : World} {nl : Option Bool} {cl : Bool} {z : Nat} {l : List IV} {v : Value} (h : Rep Γ w (.fsl nl cl z l) v) : (l = [] ∧ Rep Γ w (.fsl (some true) cl z l) v) ∨ Rep Γ w (.fsl (some false) cl z l) v := by
  simp only [Rep, RepC] at h ⊢
  obtain ⟨A, c, e, h1, h2, h3, h4, h5⟩ := h
  by_cases hA : A = none
  · left
    have hl : l = [] := by
      rcases h5 with h5 | ⟨g, o, h6, _⟩
      · exact h5
      · rw [hA] at h6; cases h6
    exact ⟨hl, A, c, e, h1, h2, fun _ => hA, (fun h => by cases h), .inl hl⟩
  · right
    exact ⟨A, c, e, h1, h2, (fun h => by cases h), fun _ => hA, h5⟩
theorem Splits.nil1 {nl : Option Bool} {cl : Bool} {z : Nat} {l : List IV} : Splits [.fsl nl cl z l] (if l = [] then [[.fsl (some true) cl z []], [.fsl (some false) cl z []]] else [[.fsl (some false) cl z l]]) := by
  intro Γ w vs h
  simp only [RepL] at h
  obtain ⟨v, us, e, h1, h2⟩ := h
  rcases rep_nil_or h1 with ⟨hl, h3⟩ | h3
  · subst hl
    rw [if_pos rfl]
    refine ⟨_, List.mem_cons_self, ?_⟩
    simp only [RepL]
    exact ⟨v, us, e, h3, h2⟩
  · by_cases hl : l = []
    · subst hl
      rw [if_pos rfl]
      refine ⟨_, List.mem_cons_of_mem _ List.mem_cons_self, ?_⟩
      simp only [RepL]
      exact ⟨v, us, e, h3, h2⟩
    · rw [if_neg hl]
      refine ⟨_, List.mem_cons_self, ?_⟩
      simp only [RepL]
      exact ⟨v, us, e, h3, h2⟩

section
variable {P : Program} {H : Hint}
/-- A contract, that may say less than what its function answers, out of what that answers at what the arguments may be. -/
theorem known_alt (hP : Fits P) {f : FuncId} {F : SpecF}
    (h : ∀ xs T v T1, (true, v, T1) ∈ F xs T → ∃ alts, alts ≠ [] ∧ Splits xs alts ∧ ∀ ys ∈ alts, NoGd ys ∧ ∃ (spec : FuncId → Option SpecF) (ls : FuncId → Nat → Option LoopF), (∀ f F, spec f = some F → Known P H f F) ∧ LoopsOK P H (acall P H (ovrOf spec)) ls ∧
      ∃ n v0, Wk v0 v ∧ callK P H spec ls n f ys T (fun v T => some (v, T)) = some (v0, T1)) : Known P H f F := by
  intro g xs T r T1 hr
  simp only at hr
  split at hr
  · rename_i hg
    subst hg
    obtain ⟨⟨t, v, T2⟩, hF, e⟩ := Option.map_eq_some_iff.1 hr
    · cases e
      have ht := List.find?_some hF
      simp only at ht
      subst ht
      obtain ⟨alts, hne, hsp, hall⟩ := h xs T _ _ (List.mem_of_find?_eq_some hF)
      have run : ∀ ys ∈ alts, NoGd ys ∧ ∃ v0, Wk v0 r ∧ (∃ fn, P.funcs[g]? = some fn ∧ fn.name ≠ "runtime.NumGoroutine" ∧ fn.body.isSome = true) ∧
          ∀ (Γ : Cx) (w : World) (vs : List Value), Inv Γ w → Γ.T = T → GlOK H Γ w → RepL Γ w ys vs → NoGd ys → Calls P g vs.toArray w fun e w' => ∃ v Γ', e = .returned v ∧ Γ'.T = T1 ∧ Fr T.length Γ w Γ' w' ∧ Rep Γ' w' v0 v := by
        intro ys hy
        obtain ⟨hng, spec, ls, hs, hls, n, v0, hw, hn⟩ := hall ys hy
        obtain ⟨v, T2, ⟨m, hm⟩, h2⟩ := callK_ok hls n _ _ _ _ hn
        cases h2
        exact ⟨hng, _, hw, sound hP.order hP.small hP.quiet (ovr_ok hs) m g ys T _ _ (hm m (Nat.le_refl _))⟩
      obtain ⟨y0, ys0, rfl⟩ : ∃ y0 ys0, alts = y0 :: ys0 := List.exists_cons_of_ne_nil hne
      refine ⟨?_, fun Γ w vs hi hT hgl hrl hng => ?_⟩
      · obtain ⟨_, v0, _, h1, _⟩ := run y0 List.mem_cons_self
        exact h1
      · obtain ⟨ys, hy, hyr⟩ := hsp Γ w vs hrl
        obtain ⟨hng', v0, hw, _, h1⟩ := run ys hy
        refine Calls.mono (h1 Γ w vs hi hT hgl hyr hng') ?_
        rintro e w' ⟨u, Γ', h3, h4, h5, h6⟩
        exact ⟨u, Γ', h3, h4, h5, hw Γ' w' u h6⟩
  · cases hr
/-- A contract that may say less than what its function answers. -/
theorem known_weak (hP : Fits P) {f : FuncId} {F : SpecF} {spec : FuncId → Option SpecF} (hs : ∀ f F, spec f = some F → Known P H f F) {ls : FuncId → Nat → Option LoopF} (hls : LoopsOK P H (acall P H (ovrOf spec)) ls)
    (h : ∀ xs T v T1, (true, v, T1) ∈ F xs T → NoGd xs ∧ ∃ n v0, Wk v0 v ∧ callK P H spec ls n f xs T (fun v T => some (v, T)) = some (v0, T1)) : Known P H f F :=
  known_alt hP fun xs T v T1 hm => by
    obtain ⟨hng, n, v0, hw, hc⟩ := h xs T v T1 hm
    refine ⟨[xs], by simp, Splits.self xs, fun ys hy => ?_⟩
    rw [List.mem_singleton] at hy
    subst hy
    exact ⟨hng, spec, ls, hs, hls, n, v0, hw, hc⟩
/-- The same, where what is answered may be frozen: nothing is left of the memory. -/
theorem known_frz (hP : Fits P) {f : FuncId} {F : SpecF}
    (h : ∀ xs T v T1, (true, v, T1) ∈ F xs T → T = [] ∧ T1 = [] ∧ ∃ alts, alts ≠ [] ∧ Splits xs alts ∧ ∀ ys ∈ alts, NoGd ys ∧ ∃ (spec : FuncId → Option SpecF) (ls : FuncId → Nat → Option LoopF), (∀ f F, spec f = some F → Known P H f F) ∧ LoopsOK P H (acall P H (ovrOf spec)) ls ∧
      ∃ n v0 T2 v1 fr, callK P H spec ls n f ys T (fun v T => some (v, T)) = some (v0, T2) ∧ frz T2 v0 = some (v1, fr) ∧ Wk v1 v) : Known P H f F := by
  intro g xs T r T1 hr
  simp only at hr
  split at hr
  · rename_i hg
    subst hg
    obtain ⟨⟨t, v, T2⟩, hF, e⟩ := Option.map_eq_some_iff.1 hr
    · cases e
      have ht := List.find?_some hF
      simp only at ht
      subst ht
      obtain ⟨rfl, rfl, alts, hne, hsp, hall⟩ := h xs T _ _ (List.mem_of_find?_eq_some hF)
      have run : ∀ ys ∈ alts, NoGd ys ∧ ∃ v0 T2 v1 fr, frz T2 v0 = some (v1, fr) ∧ Wk v1 r ∧ (∃ fn, P.funcs[g]? = some fn ∧ fn.name ≠ "runtime.NumGoroutine" ∧ fn.body.isSome = true) ∧
          ∀ (Γ : Cx) (w : World) (vs : List Value), Inv Γ w → Γ.T = [] → GlOK H Γ w → RepL Γ w ys vs → NoGd ys → Calls P g vs.toArray w fun e w' => ∃ v Γ', e = .returned v ∧ Γ'.T = T2 ∧ Fr 0 Γ w Γ' w' ∧ Rep Γ' w' v0 v := by
        intro ys hy
        obtain ⟨hng, spec, ls, hs, hls, n, v0, T2, v1, fr, hn, hf, hw⟩ := hall ys hy
        obtain ⟨v, T3, ⟨m, hm⟩, h2⟩ := callK_ok hls n _ _ _ _ hn
        cases h2
        exact ⟨hng, _, _, _, _, hf, hw, sound hP.order hP.small hP.quiet (ovr_ok hs) m g ys [] _ _ (hm m (Nat.le_refl _))⟩
      obtain ⟨y0, ys0, rfl⟩ : ∃ y0 ys0, alts = y0 :: ys0 := List.exists_cons_of_ne_nil hne
      refine ⟨?_, fun Γ w vs hi hT hgl hrl hng => ?_⟩
      · obtain ⟨_, v0, _, _, _, _, _, h1, _⟩ := run y0 List.mem_cons_self
        exact h1
      · obtain ⟨ys, hy, hyr⟩ := hsp Γ w vs hrl
        obtain ⟨hng', v0, T2, v1, fr, hf, hw, _, h1⟩ := run ys hy
        refine Calls.mono (h1 Γ w vs hi hT hgl hyr hng') ?_
        rintro e w' ⟨u, Γ', h3, h4, hfr, hrv⟩
        subst h4
        have noown : ∀ g, ¬ Γ.own g := by
          rintro g ⟨b, k, m1, _⟩
          rw [hT] at m1
          cases m1
        have noliv : ∀ g, ¬ Γ.liv g := by
          rintro g ⟨b, k, m1, _⟩
          rw [hT] at m1
          cases m1
        have newp : ∀ g, (Γ'.shut fr).ok g → Γ.ok g ∨ w.heap.size ≤ g := by
          intro g hg
          rcases hg with hg | ⟨b, k, m1, m2, m3, m4⟩
          · rcases hfr.okp g hg with h | h | h
            · exact .inl h
            · exact absurd h (noown g)
            · exact .inr h
          · rcases hfr.liv g ⟨b, k, m2, cel_live m3, m4⟩ with h | h
            · exact absurd h (noliv g)
            · exact .inr h
        have hfz := frz_rep (bs' := fr) hfr.inv v0 v1 fr u hf (fun _ h => h) hrv
        have S := step_pure (okf := (Γ'.shut fr).ok) hi ⟨hfr.frm.os, hfr.frm.tape, hfr.frm.output, hfr.frm.size⟩ (fun g hg => hfr.frm.heap g hg (noown g)) (fun g hg => .inl (hfr.ok g hg).1) newp (fun g hg => (step_shut hfr.inv fr).inv.okb g hg)
        exact ⟨u, ⟨(Γ'.shut fr).ok, Γ.T, Γ.ρ⟩, h3, hT, (Fr.refl hi (Nat.zero_le _)).step S, hw _ w' u (repC_rep (Γ := ⟨(Γ'.shut fr).ok, Γ.T, Γ.ρ⟩) _ _ hfz)⟩
  · cases hr
/-- A function without arguments answers always the same. -/
def constF (v : IV) : SpecF := fun xs T => match xs, T with
  | [], [] => [(true, v, [])]
  | _, _ => []
theorem known_const (hP : Fits P) {spec : FuncId → Option SpecF} (hs : ∀ f F, spec f = some F → Known P H f F) {f : FuncId} {k : Nat} {v : IV} (h : acall P H (ovrOf spec) k f [] [] = some (v, [])) : Known P H f (constF v) := by
  intro g xs T r T1 hr
  simp only at hr
  split at hr
  · rename_i hg
    subst hg
    have e : xs = [] ∧ T = [] ∧ r = v ∧ T1 = [] := by
      unfold constF at hr
      split at hr
      · simp at hr
        exact ⟨rfl, rfl, hr.1.symm, hr.2⟩
      · simp at hr
    obtain ⟨rfl, rfl, rfl, rfl⟩ := e
    exact sound hP.order hP.small hP.quiet (ovr_ok hs) k g [] [] _ _ h
  · cases hr
/-- No argument is a guarded one. -/
def noGdB (l : List IV) : Bool := l.all fun x => match x with | .gd .. => false | _ => true
theorem noGd_of {l : List IV} (h : noGdB l = true) : NoGd l := by
  intro t j w c x hx
  have := List.all_eq_true.1 h _ (List.mem_of_getElem? hx)
  cases this
end
end Go.Im

namespace Go.Im
open Go
set_option linter.unusedVariables false
set_option linter.unusedSimpArgs false
set_option linter.unnecessarySimpa false
set_option linter.unusedSectionVars false

/-! ### Loops over functions, with continuations -/
section
variable {β : Type}
end

section
variable {β : Type} {P : Program} {H : Hint} {r : β}
end
end Go.Im

namespace Go.Im
open Go
set_option linter.unusedVariables false
set_option linter.unusedSimpArgs false
set_option linter.unnecessarySimpa false
set_option linter.unusedSectionVars false

/-! ### Whole numbers -/
theorem wrap_u64 (n : Int) : IntKind.u64.wrap n = n % 18446744073709551616 := rfl
theorem wrap_i64 (n : Int) : IntKind.i64.wrap n = (n + 9223372036854775808) % 18446744073709551616 - 9223372036854775808 := by
  have h1 : (2 : Int) ^ 64 = 18446744073709551616 := rfl
  have h2 : (2 : Int) ^ (64 - 1) = 9223372036854775808 := rfl
  simp only [IntKind.wrap, IntKind.signed, IntKind.bits, Bool.true_and, h1, h2, decide_eq_true_eq]
  split <;> omega
theorem wrap_u8 (n : Int) : IntKind.u8.wrap n = n % 256 := rfl
theorem wrap_i8 (n : Int) : IntKind.i8.wrap n = (n + 128) % 256 - 128 := by
  have h1 : (2 : Int) ^ 8 = 256 := rfl
  have h2 : (2 : Int) ^ (8 - 1) = 128 := rfl
  simp only [IntKind.wrap, IntKind.signed, IntKind.bits, Bool.true_and, h1, h2, decide_eq_true_eq]
  split <;> omega
theorem range_u64 : IntKind.u64.min = 0 ∧ IntKind.u64.max = 18446744073709551615 := by decide
theorem range_i64 : IntKind.i64.min = -9223372036854775808 ∧ IntKind.i64.max = 9223372036854775807 := by decide
theorem range_u8 : IntKind.u8.min = 0 ∧ IntKind.u8.max = 255 := by decide

theorem wadd {a b : Nat} (h : a + b ≤ 9223372036854775807) : IntKind.i64.wrap ((a : Int) + (b : Int)) = ((a + b : Nat) : Int) := by rw [wrap_i64]; omega
theorem wadd1 {a : Nat} (h : a < 9223372036854775807) : IntKind.i64.wrap ((a : Int) + 1) = ((a + 1 : Nat) : Int) := by rw [wrap_i64]; omega
theorem wi_nat {a : Nat} (h : a ≤ 9223372036854775807) : IntKind.i64.wrap (a : Int) = (a : Int) := by rw [wrap_i64]; omega
theorem wu_nat {a : Nat} (h : a ≤ 18446744073709551615) : IntKind.u64.wrap (a : Int) = (a : Int) := by rw [wrap_u64]; omega
theorem roomB_val : (roomB : Int) = 140737488355328 := rfl
theorem roomB_nat : roomB = 140737488355328 := rfl
theorem maxLen_val : maxLen = 9223372036854775807 := rfl

/-- No contract is asked of the loops within. -/
theorem inner0 {P : Program} {H : Hint} {call : Nat → CallF} {it : Nat → ItF} {kp : Keep} {pos : Nat} {c : Code} : ItemsOK P H call it (fun _ => none) kp pos c := fun _ _ _ hF => by cases hF

/-- One test of a tree, without a rewriting of all of it. -/
theorem bif_step {α : Type} {c : Bool} {a b r : α} (h : c = true) (k : a = r) : (bif c then a else b) = r := by subst h; exact k
theorem bif_stepF {α : Type} {c : Bool} {a b r : α} (h : c = false) (k : b = r) : (bif c then a else b) = r := by subst h; exact k

theorem u8s_cons (b : UInt8) (l : List UInt8) : u8s (b :: l) = .int .u8 (b.toNat : Int) :: u8s l := rfl
theorem u8s_len (l : List UInt8) : (u8s l).length = l.length := by simp [u8s]
theorem u8s_app (a b : List UInt8) : u8s (a ++ b) = u8s a ++ u8s b := by simp [u8s]
theorem u8s_drop (l : List UInt8) (n : Nat) : (u8s l).drop n = u8s (l.drop n) := by simp [u8s, List.map_drop]
theorem u8s_take (l : List UInt8) (n : Nat) : (u8s l).take n = u8s (l.take n) := by simp [u8s, List.map_take]
theorem isBytes_u8s (l : List UInt8) : isBytes (u8s l) = true := by
  induction l with
  | nil => rfl
  | cons b l ih => simpa [u8s_cons, isBytes] using ih
theorem toBytes_u8s (l : List UInt8) : toBytes (u8s l) = l := by
  induction l with
  | nil => rfl
  | cons b l ih => simp [u8s_cons, toBytes, ih, intOf]
theorem nthD_mapf {α : Type} {f : α → IV} {l : List α} {i : Nat} (h : i < l.length) : nthD (l.map f) i = f l[i] := by
  simp [nthD, List.getD_eq_getElem?_getD, List.getElem?_eq_getElem h]
/-- A byte out of a whole number. -/
def u8of (x : Int) : UInt8 := UInt8.ofNat (x % 256).toNat
theorem u8of_toNat (x : Int) : ((u8of x).toNat : Int) = x % 256 := by
  have h1 : (x % 256).toNat < 256 := by omega
  simp [u8of, Nat.mod_eq_of_lt h1]
  omega
theorem iv_u8 (x : Int) : IV.int .u8 (IntKind.u8.wrap x) = .int .u8 ((u8of x).toNat : Int) := by rw [u8of_toNat, wrap_u8]
theorem iv_u8_one (x : Int) : [IV.int .u8 (IntKind.u8.wrap x)] = u8s [u8of x] := by rw [iv_u8]; rfl
/-- The i-th byte of a whole number, the least one first. -/
def byteAt (x : Int) (i : Nat) : UInt8 := u8of (x / ((256 ^ i : Nat) : Int))
/-- So many bytes of a whole number, the greatest one first. -/
def be : Nat → Int → List UInt8
  | 0, _ => []
  | n + 1, x => byteAt x n :: be n x
theorem be_len (n : Nat) (x : Int) : (be n x).length = n := by
  induction n with
  | zero => rfl
  | succ n ih => simp [be, ih]
/-! ### Rows of bytes -/
def okB (xs : List IV) : Bool := xs.all fun x => match x with | .int .u8 n => decide (0 ≤ n ∧ n < 256) | _ => false
theorem okB_eq : ∀ {xs : List IV}, okB xs = true → xs = u8s (toBytes xs)
  | [], _ => rfl
  | x :: xs, h => by
    simp only [okB, List.all_cons, Bool.and_eq_true] at h
    have ih := okB_eq (xs := xs) (by simpa [okB] using h.2)
    have h1 := h.1
    split at h1
    · rename_i n
      simp only [decide_eq_true_eq] at h1
      have h2 : n.toNat < 256 := by omega
      rw [toBytes, u8s_cons, ← ih]
      simp only [intOf, UInt8.toNat_ofNat', List.cons.injEq, IV.int.injEq, true_and, and_true]
      omega
    · cases h1
theorem okB_u8s (l : List UInt8) : okB (u8s l) = true := by
  simp only [okB, u8s, List.all_map, List.all_eq_true, Function.comp_def, decide_eq_true_eq]
  intro b _
  have := b.toNat_lt
  omega
/-- The number that bytes are, the greatest one first. -/
def numL (l : List UInt8) : Nat := l.foldl (fun n b => n * 256 + b.toNat) 0
theorem numL_snoc (l : List UInt8) (b : UInt8) : numL (l ++ [b]) = numL l * 256 + b.toNat := by simp [numL]
theorem numL_lt (l : List UInt8) : numL l < 256 ^ l.length := by
  rw [← List.reverse_reverse (as := l)]
  generalize l.reverse = r
  induction r with
  | nil => simp [numL]
  | cons b r ih =>
    rw [List.reverse_cons, numL_snoc, List.length_append, List.length_singleton, Nat.pow_succ]
    have := b.toNat_lt
    omega
theorem or_u64 {a b : Nat} {k : Nat} (hb : b < 2 ^ k) (h : a * 2 ^ k + b < 18446744073709551616) : ibits .or .u64 ((a * 2 ^ k : Nat) : Int) ((b : Nat) : Int) = ((a * 2 ^ k + b : Nat) : Int) := by
  have h1 : (BitVec.ofInt IntKind.u64.bits ((a * 2 ^ k : Nat) : Int)).toNat = a * 2 ^ k := by
    simp only [IntKind.bits, BitVec.toNat_ofInt]; omega
  have h2 : (BitVec.ofInt IntKind.u64.bits ((b : Nat) : Int)).toNat = b := by
    simp only [IntKind.bits, BitVec.toNat_ofInt]; omega
  simp only [ibits]
  rw [BitVec.toNat_or, h1, h2, wrap_u64, Nat.mul_comm, ← Nat.two_pow_add_eq_or_of_lt hb]
  rw [Nat.mul_comm] at h
  omega

/-! ### Steps -/



/-! ### What proofs begin with -/

/-! ### A loop over a row -/
/-- What a loop over a row comes to: the last state of mind, or an early end. -/
def foldE {X Y V : Type} (f : Nat → X → V → X ⊕ Y) : Nat → X → List V → X ⊕ Y
  | _, x, [] => .inl x
  | i, x, v :: vs => match f i x v with
    | .inl x' => foldE f (i + 1) x' vs
    | .inr y => .inr y
/-- A loop's run, by what the row comes to. -/
def EachOK (P : Program) (H : Hint) (call : Nat → CallF) (p : Nat) (kp : Keep) (b : Code) (s : St) (e : Ex) {X : Type} (E : X → St) : X ⊕ (Ex × St) → Prop
  | .inl x' => Runs P H call p kp b s e (E x')
  | .inr y => Runs P H call p kp b s y.1 y.2
theorem runs_each {P : Program} {H : Hint} {spec : FuncId → Option SpecF} {ls : FuncId → Nat → Option LoopF} (hls : LoopsOK P H (acall P H (ovrOf spec)) ls) {f : FuncId} {q p n : Nat}
    (hin : ItemsOK P H (acall P H (ovrOf spec)) (itOf P H (acall P H (ovrOf spec))) (ls f) (H.kp f) (2 * q) (loopAt P f q))
    {X V : Type} {l : List V} (S : Nat → X → St) (E : X → St) (I : Nat → X → Prop) {g : Nat → X → V → X ⊕ (Ex × St)} {e : Ex} (he : e ≠ .normal)
    (hstep : ∀ i x (h : i < l.length), I i x → (∃ x', g i x l[i] = .inl x' ∧ roundK P H spec ls n p f q (S i x) = some (.normal, S (i + 1) x') ∧ I (i + 1) x') ∨
      (∃ e' s', g i x l[i] = .inr (e', s') ∧ e' ≠ .normal ∧ roundK P H spec ls n p f q (S i x) = some (e', s')))
    (hlast : ∀ x, I l.length x → roundK P H spec ls n p f q (S l.length x) = some (e, E x)) :
    ∀ (k i : Nat) (x : X), i + k = l.length → I i x → EachOK P H (acall P H (ovrOf spec)) p (H.kp f) (loopAt P f q) (S i x) e E (foldE g i x (l.drop i))
  | 0, i, x, h, hI => by
    have : i = l.length := by omega
    subst this
    rw [List.drop_length]
    exact Runs.last hls hin he (hlast x hI)
  | k + 1, i, x, h, hI => by
    have hi : i < l.length := by omega
    rw [List.drop_eq_getElem_cons hi]
    unfold foldE
    rcases hstep i x hi hI with ⟨x', hg, h1, h2⟩ | ⟨e', s', hg, h1, h2⟩
    · have ih := runs_each hls hin S E I he hstep hlast k (i + 1) x' (by omega) h2
      rw [hg]
      simp only
      revert ih
      generalize foldE g (i + 1) x' (l.drop (i + 1)) = r
      intro ih
      cases r with
      | inl y => exact Runs.step hls hin h1 ih
      | inr y => exact Runs.step hls hin h1 ih
    · rw [hg]
      exact Runs.last hls hin h1 h2

/-! ### Arguments -/
theorem arg_int {P : Program} {t : TypeId} {k : IntKind} (hu : P.underlying t = some (.int k)) {x : IV} (h : ArgT P t x) : ∃ i, x = .int k i ∧ k.min ≤ i ∧ i ≤ k.max := by
  obtain ⟨n, l, h1, h2, _⟩ := h
  cases n with
  | zero => simp [Ty] at h1
  | succ n =>
    unfold Ty at h1
    rw [hu] at h1
    obtain ⟨i, rfl, hw⟩ := h1
    have : x = .int k i := by
      simp only [pack, isAggT, hu, Option.map_some] at h2
      exact (Option.some.inj h2).symm
    refine ⟨i, this, ?_⟩
    simpa [Lit.wf] using hw
theorem arg_str {P : Program} {t : TypeId} (hu : P.underlying t = some .string) {x : IV} (h : ArgT P t x) : ∃ s, x = .str s ∧ s.length ≤ reachBytes := by
  obtain ⟨n, l, h1, h2, _⟩ := h
  cases n with
  | zero => simp [Ty] at h1
  | succ n =>
    unfold Ty at h1
    rw [hu] at h1
    obtain ⟨s, rfl, hw⟩ := h1
    have : x = .str s := by
      simp only [pack, isAggT, hu, Option.map_some] at h2
      exact (Option.some.inj h2).symm
    exact ⟨s, this, hw⟩
theorem ty_int {P : Program} {t : TypeId} {k : IntKind} (hu : P.underlying t = some (.int k)) {n : Nat} {l : List IV} (h : Ty P n t l) : ∃ i, l = [.int k i] ∧ k.min ≤ i ∧ i ≤ k.max := by
  cases n with
  | zero => simp [Ty] at h
  | succ n =>
    unfold Ty at h
    rw [hu] at h
    obtain ⟨i, rfl, hw⟩ := h
    exact ⟨i, rfl, by simpa [Lit.wf] using hw⟩
theorem ty_struct {P : Program} {t : TypeId} {fs : List Field} (hu : P.underlying t = some (.struct fs.toArray)) {n : Nat} {l : List IV} (h : Ty P n t l) : ∃ m, n = m + 1 ∧ FieldsT (Ty P m) fs l := by
  cases n with
  | zero => simp [Ty] at h
  | succ n =>
    unfold Ty at h
    rw [hu] at h
    exact ⟨n, rfl, h⟩
theorem ty_slice {P : Program} {t e : TypeId} (hu : P.underlying t = some (.slice e)) {n : Nat} {l : List IV} (h : Ty P n t l) : ∃ m nl cl es, n = m + 1 ∧ l = [.fsl (some nl) cl (P.cellsOf e) es] ∧ (nl = true → es = [] ∧ cl = true) ∧ es.length * P.bytesOf e ≤ reachBytes ∧ es.length ≤ maxLen ∧
    ∀ x ∈ es, ∃ cs, pack P e cs = some x ∧ cellsOK cs = true ∧ Ty P m e cs := by
  cases n with
  | zero => simp [Ty] at h
  | succ n =>
    unfold Ty at h
    rw [hu] at h
    obtain ⟨nl, cl, es, h1, h2, h3, h4, h5⟩ := h
    exact ⟨n, nl, cl, es, rfl, h1, h2, h3, h4, h5⟩
theorem reach_val : reachBytes = 140737488351232 := by decide
theorem pack_int {P : Program} {t : TypeId} {k : IntKind} (hu : P.underlying t = some (.int k)) {x y : IV} (h : pack P t [x] = some y) : y = x := by
  simp only [pack, isAggT, hu, Option.map_some] at h
  exact (Option.some.inj h).symm
theorem pack_struct {P : Program} {t : TypeId} {fs : Array Field} (hu : P.underlying t = some (.struct fs)) {l : List IV} {y : IV} (h : pack P t l = some y) (hl : l.length = P.cellsOf t) : y = .agg l := by
  rw [pack_agg' (by simp [isAggT, hu]) hl] at h
  exact (Option.some.inj h).symm
/-- What the laws lean on of a program. -/
theorem fits_of {P : Program} (ho : P.follows .mixedOrders = true) (hs : decide (P.funcs.size ≤ YID) = true) (hq : (P.funcs.toList.all fun fn => fn.body.isNone || !(fn.name == "runtime.NumGoroutine")) = true) : Fits P where
  order := ho
  small := of_decide_eq_true hs
  quiet := by
    intro f fn hf hb hn
    have hm : fn ∈ P.funcs.toList := by
      rw [Array.mem_toList_iff]
      exact Array.mem_of_getElem? hf
    have := List.all_eq_true.1 hq fn hm
    rw [hn] at this
    cases hbd : fn.body with
    | none => rw [hbd] at hb; cases hb
    | some c => rw [hbd] at this; simp at this
end Go.Im

namespace Go.Im
open Go
set_option linter.unusedVariables false
set_option linter.unusedSimpArgs false
set_option linter.unnecessarySimpa false
set_option linter.unusedSectionVars false

/-! ### Rounds of a loop within a function that a loop goes over -/
noncomputable section
variable (P : Program) (H : Hint)
end

section
variable {P : Program} {H : Hint}
end
end Go.Im

namespace Go.Im
open Go
set_option linter.unusedVariables false
set_option linter.unusedSimpArgs false
set_option linter.unnecessarySimpa false
set_option linter.unusedSectionVars false
noncomputable section
variable {P : Program} {H : Hint}
/-- A function that calls itself: its contract by ways of telling its arguments, its own calls by contracts that are known already. -/
theorem known_ralt (hP : Fits P) {f : FuncId} {F : SpecF}
    (h : ∀ xs T v T1, (true, v, T1) ∈ F xs T → ∃ alts, alts ≠ [] ∧ Splits xs alts ∧ ∀ ys ∈ alts, NoGd ys ∧ ∃ (spec : FuncId → Option SpecF) (ls : FuncId → Nat → Option LoopF), (∀ f F, spec f = some F → Known P H f F) ∧ LoopsOK P H (acall P H (ovrOf spec)) ls ∧
      ∃ n v0, Wk v0 v ∧ bodyK P H spec ls n f ys T (fun v T => some (v, T)) = some (v0, T1)) : Known P H f F := by
  intro g xs T r T1 hr
  simp only at hr
  split at hr
  · rename_i hg
    subst hg
    obtain ⟨⟨t, v, T2⟩, hF, e⟩ := Option.map_eq_some_iff.1 hr
    · cases e
      have ht := List.find?_some hF
      simp only at ht
      subst ht
      obtain ⟨alts, hne, hsp, hall⟩ := h xs T _ _ (List.mem_of_find?_eq_some hF)
      have run : ∀ ys ∈ alts, NoGd ys ∧ ∃ v0, Wk v0 r ∧ (∃ fn, P.funcs[g]? = some fn ∧ fn.name ≠ "runtime.NumGoroutine" ∧ fn.body.isSome = true) ∧
          ∀ (Γ : Cx) (w : World) (vs : List Value), Inv Γ w → Γ.T = T → GlOK H Γ w → RepL Γ w ys vs → NoGd ys → Calls P g vs.toArray w fun e w' => ∃ v Γ', e = .returned v ∧ Γ'.T = T1 ∧ Fr T.length Γ w Γ' w' ∧ Rep Γ' w' v0 v := by
        intro ys hy
        obtain ⟨hng, spec, ls, hs, hls, n, v0, hw, hn⟩ := hall ys hy
        obtain ⟨v, T2, ⟨m, hm⟩, h2⟩ := bodyK_ok hls hn
        cases h2
        exact ⟨hng, _, hw, body_ok hP.order hP.small hP.quiet (sound hP.order hP.small hP.quiet (ovr_ok hs) m) m g ys T _ _ (hm m (Nat.le_refl _))⟩
      obtain ⟨y0, ys0, rfl⟩ : ∃ y0 ys0, alts = y0 :: ys0 := List.exists_cons_of_ne_nil hne
      refine ⟨?_, fun Γ w vs hi hT hgl hrl hng => ?_⟩
      · obtain ⟨_, v0, _, h1, _⟩ := run y0 List.mem_cons_self
        exact h1
      · obtain ⟨ys, hy, hyr⟩ := hsp Γ w vs hrl
        obtain ⟨hng', v0, hw, _, h1⟩ := run ys hy
        refine Calls.mono (h1 Γ w vs hi hT hgl hyr hng') ?_
        rintro e w' ⟨u, Γ', h3, h4, h5, h6⟩
        exact ⟨u, Γ', h3, h4, h5, hw Γ' w' u h6⟩
  · cases hr
/-- The same, where what is answered may be frozen. -/
theorem known_rfrz (hP : Fits P) {f : FuncId} {F : SpecF}
    (h : ∀ xs T v T1, (true, v, T1) ∈ F xs T → T = [] ∧ T1 = [] ∧ ∃ alts, alts ≠ [] ∧ Splits xs alts ∧ ∀ ys ∈ alts, NoGd ys ∧ ∃ (spec : FuncId → Option SpecF) (ls : FuncId → Nat → Option LoopF), (∀ f F, spec f = some F → Known P H f F) ∧ LoopsOK P H (acall P H (ovrOf spec)) ls ∧
      ∃ n v0 T2 v1 fr, bodyK P H spec ls n f ys T (fun v T => some (v, T)) = some (v0, T2) ∧ frz T2 v0 = some (v1, fr) ∧ Wk v1 v) : Known P H f F := by
  intro g xs T r T1 hr
  simp only at hr
  split at hr
  · rename_i hg
    subst hg
    obtain ⟨⟨t, v, T2⟩, hF, e⟩ := Option.map_eq_some_iff.1 hr
    · cases e
      have ht := List.find?_some hF
      simp only at ht
      subst ht
      obtain ⟨rfl, rfl, alts, hne, hsp, hall⟩ := h xs T _ _ (List.mem_of_find?_eq_some hF)
      have run : ∀ ys ∈ alts, NoGd ys ∧ ∃ v0 T2 v1 fr, frz T2 v0 = some (v1, fr) ∧ Wk v1 r ∧ (∃ fn, P.funcs[g]? = some fn ∧ fn.name ≠ "runtime.NumGoroutine" ∧ fn.body.isSome = true) ∧
          ∀ (Γ : Cx) (w : World) (vs : List Value), Inv Γ w → Γ.T = [] → GlOK H Γ w → RepL Γ w ys vs → NoGd ys → Calls P g vs.toArray w fun e w' => ∃ v Γ', e = .returned v ∧ Γ'.T = T2 ∧ Fr 0 Γ w Γ' w' ∧ Rep Γ' w' v0 v := by
        intro ys hy
        obtain ⟨hng, spec, ls, hs, hls, n, v0, T2, v1, fr, hn, hf, hw⟩ := hall ys hy
        obtain ⟨v, T3, ⟨m, hm⟩, h2⟩ := bodyK_ok hls hn
        cases h2
        exact ⟨hng, _, _, _, _, hf, hw, body_ok hP.order hP.small hP.quiet (sound hP.order hP.small hP.quiet (ovr_ok hs) m) m g ys [] _ _ (hm m (Nat.le_refl _))⟩
      obtain ⟨y0, ys0, rfl⟩ : ∃ y0 ys0, alts = y0 :: ys0 := List.exists_cons_of_ne_nil hne
      refine ⟨?_, fun Γ w vs hi hT hgl hrl hng => ?_⟩
      · obtain ⟨_, v0, _, _, _, _, _, h1, _⟩ := run y0 List.mem_cons_self
        exact h1
      · obtain ⟨ys, hy, hyr⟩ := hsp Γ w vs hrl
        obtain ⟨hng', v0, T2, v1, fr, hf, hw, _, h1⟩ := run ys hy
        refine Calls.mono (h1 Γ w vs hi hT hgl hyr hng') ?_
        rintro e w' ⟨u, Γ', h3, h4, hfr, hrv⟩
        subst h4
        have noown : ∀ g, ¬ Γ.own g := by
          rintro g ⟨b, k, m1, _⟩
          rw [hT] at m1
          cases m1
        have noliv : ∀ g, ¬ Γ.liv g := by
          rintro g ⟨b, k, m1, _⟩
          rw [hT] at m1
          cases m1
        have newp : ∀ g, (Γ'.shut fr).ok g → Γ.ok g ∨ w.heap.size ≤ g := by
          intro g hg
          rcases hg with hg | ⟨b, k, m1, m2, m3, m4⟩
          · rcases hfr.okp g hg with h | h | h
            · exact .inl h
            · exact absurd h (noown g)
            · exact .inr h
          · rcases hfr.liv g ⟨b, k, m2, cel_live m3, m4⟩ with h | h
            · exact absurd h (noliv g)
            · exact .inr h
        have hfz := frz_rep (bs' := fr) hfr.inv v0 v1 fr u hf (fun _ h => h) hrv
        have S := step_pure (okf := (Γ'.shut fr).ok) hi ⟨hfr.frm.os, hfr.frm.tape, hfr.frm.output, hfr.frm.size⟩ (fun g hg => hfr.frm.heap g hg (noown g)) (fun g hg => .inl (hfr.ok g hg).1) newp (fun g hg => (step_shut hfr.inv fr).inv.okb g hg)
        exact ⟨u, ⟨(Γ'.shut fr).ok, Γ.T, Γ.ρ⟩, h3, hT, (Fr.refl hi (Nat.zero_le _)).step S, hw _ w' u (repC_rep (Γ := ⟨(Γ'.shut fr).ok, Γ.T, Γ.ρ⟩) _ _ hfz)⟩
  · cases hr
/-- A contract each answer of which is another contract's. -/
theorem known_each {f : FuncId} {F : SpecF} (h : ∀ xs T v T1, (true, v, T1) ∈ F xs T → ∃ F', Known P H f F' ∧ F' xs T = [(true, v, T1)]) : Known P H f F := by
  intro g xs T r T1 hr
  simp only at hr
  split at hr
  · rename_i hg
    subst hg
    obtain ⟨⟨t, v, T2⟩, hF, e⟩ := Option.map_eq_some_iff.1 hr
    cases e
    have ht := List.find?_some hF
    simp only at ht
    subst ht
    obtain ⟨F', hK, hF'⟩ := h xs T _ _ (List.mem_of_find?_eq_some hF)
    refine hK g xs T r T1 ?_
    simp only [if_true, hF']
    rfl
  · cases hr
end
end Go.Im
