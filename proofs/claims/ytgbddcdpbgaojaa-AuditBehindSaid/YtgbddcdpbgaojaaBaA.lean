/- Packets that steal: what the given program does. It bears no condition. -/
import Derived.Test.YtgbddcdpbgaojaaAwY
import Derived.Test.YtgbddcdpbgaojaaAvE
-- FOLDS AwC.src.lean
-- FOLD $.iv8 <= IV.agg [IV.int IntKind.i64 $.le, IV.int IntKind.i64 $.ve, IV.int IntKind.i64 $.mo, IV.int IntKind.i64 $.st, IV.int IntKind.i64 $.po, IV.int IntKind.i64 $.pr, IV.int IntKind.u32 $.de, IV.int IntKind.u32 $.di, IV.int IntKind.u32 $.ri, IV.int IntKind.u64 $.rf, IV.int IntKind.u64 $.og, IV.int IntKind.u64 $.rc, IV.int IntKind.u64 $.xm, IV.fsl none false (8 : Nat) $.es, IV.bool $.ha, IV.int IntKind.u32 $.ky, IV.fsl none false (1 : Nat) $.su]
-- SUB (b0 : Bool)  => 
-- SUB (b0 : Bool) => 
-- SUB cstF b0 => oneF (stV (p b).es 0 0) (stB kn nl' cl' z x)
-- SUB bif b0 then => bif sameS (stV (p b).es 0 0) (stB kn nl' cl' z x) then
namespace Go.Proofs.Ytgbddcdpbgaojaa
open Go Go.Im
set_option linter.unusedVariables false
set_option linter.unusedSimpArgs false
def PK.iv8 (p : PK) : IV := .agg [.int .i64 p.le, .int .i64 p.ve, .int .i64 p.mo, .int .i64 p.st, .int .i64 p.po, .int .i64 p.pr, .int .u32 p.de, .int .u32 p.di, .int .u32 p.ri, .int .u64 p.rf, .int .u64 p.og, .int .u64 p.rc, .int .u64 p.xm,
  .fsl none false 8 p.es, .bool p.ha, .int .u32 p.ky, .fsl none false 1 p.su]
def rd8P (c : Nat → List IV → Bool) (p : List IV → PK) (k fa fc : List IV → Int) : SpecF := fun xs T => match xs, T with
  | [.fsl nl cl z l], [] => [(c z l, .tup [(p l).iv8, .int .i64 (k l), .agg [.int .i64 (fa l), .int .i64 (fc l)]], [])]
  | _, _ => []
def rd2P (c : Nat → List IV → Bool) (p : List IV → PK) (fa fc : List IV → Int) : SpecF := fun xs T => match xs, T with
  | [.fsl nl cl z l], [] => [(c z l, .tup [(p l).iv8, .agg [.int .i64 (fa l), .int .i64 (fc l)]], [])]
  | _, _ => []
theorem rd2_all (c : Nat → List IV → Bool) (p : List IV → PK) (k fa fc : List IV → Int) (nl : Option Bool) (cl : Bool) (z : Nat) (l : List IV) : C (tab [(36, rd8P c p k fa fc)]) 31 [.fsl nl cl z l] =
  (bif c z l then
     some
       (IV.tup
           [IV.agg
               [IV.int IntKind.i64 (p l).le, IV.int IntKind.i64 (p l).ve, IV.int IntKind.i64 (p l).mo,
                 IV.int IntKind.i64 (p l).st, IV.int IntKind.i64 (p l).po, IV.int IntKind.i64 (p l).pr,
                 IV.int IntKind.u32 (p l).de, IV.int IntKind.u32 (p l).di, IV.int IntKind.u32 (p l).ri,
                 IV.int IntKind.u64 (p l).rf, IV.int IntKind.u64 (p l).og, IV.int IntKind.u64 (p l).rc,
                 IV.int IntKind.u64 (p l).xm, IV.fsl none false (nat_lit 8) (p l).es, IV.bool (p l).ha,
                 IV.int IntKind.u32 (p l).ky, IV.fsl none false (nat_lit 1) (p l).su],
             IV.agg [IV.int IntKind.i64 (fa l), IV.int IntKind.i64 (fc l)]],
         [])
   else none) := by kernel_rfl
abbrev stV (es : List IV) (r i : Int) : List IV := [.fsl none false 8 es, .fn 33 [.ptr 0 0, .ptr 1 0], .int .i64 r, .int .i64 (es.length : Int), .int .i64 i]
abbrev stB (kn : Bool) (nl : Option Bool) (cl : Bool) (z : Nat) (x : List IV) : List Blk := [.var false [.bool kn], .var false [.fsl nl cl z x]]
theorem st_in (c : Nat → List IV → Bool) (p : List IV → PK) (fa fc : List IV → Int) (es : List IV) (i : Int) (kn : Bool) (nl : Option Bool) (cl : Bool) (z : Nat) (x : List IV) : Rd (tab [(31, rd2P c p fa fc)]) 2 37 26 (Sx 37 (stV es 0 i) (stB kn nl cl z x)) =
  (bif decide (i < (↑es.length : Int)) then
     bif decide ((8 : Nat) = (8 : Nat) ∧ (0 : Int) ≤ i ∧ i < (↑es.length : Int)) then
       bif
           testAll
             ([LT.i IntKind.i64] ++
               ([LT.b] ++
                 ([LT.b] ++
                   ([LT.i IntKind.i64] ++ ([LT.i IntKind.u32] ++ ([LT.i IntKind.u32] ++ ([LT.sl] ++ ([LT.sl] ++ []))))))))
             (0 : Nat) (nthD es i.toNat).cells then
         bif
             decide
                 (szOf (nthD (nthD es i.toNat).cells (6 : Nat)) = (1 : Nat) ∨
                   (rowL (nthD (nthD es i.toNat).cells (6 : Nat))).length = (0 : Nat)) &&
               isBytes (rowL (nthD (nthD es i.toNat).cells (6 : Nat))) then
           bif decide (z = (1 : Nat) ∨ x.length = (0 : Nat)) && isBytes x then
             bif
                 bif intOf (nthD (nthD es i.toNat).cells (0 : Nat)) == (4 : Int) then
                   !bif kn then toBytes (rowL (nthD (nthD es i.toNat).cells (6 : Nat))) == toBytes x else false
                 else false then
               some
                 (Ex.ret,
                   Sx (37 : Nat)
                     [IV.fsl none false (nat_lit 8) es,
                       IV.fn (nat_lit 33) [IV.ptr (nat_lit 0) (nat_lit 0), IV.ptr (nat_lit 1) (nat_lit 0)],
                       IV.int IntKind.i64 i, IV.int IntKind.i64 (↑es.length : Int), IV.int IntKind.i64 i]
                     [Blk.var false [IV.bool kn], Blk.var false [IV.fsl nl cl z x]])
             else
               some
                 (Ex.normal,
                   Sx (37 : Nat)
                     [IV.fsl none false (nat_lit 8) es,
                       IV.fn (nat_lit 33) [IV.ptr (nat_lit 0) (nat_lit 0), IV.ptr (nat_lit 1) (nat_lit 0)],
                       IV.int IntKind.i64 (0 : Int), IV.int IntKind.i64 (↑es.length : Int),
                       IV.int IntKind.i64 (IntKind.i64.wrap (i + (1 : Int)))]
                     [Blk.var false [IV.bool kn], Blk.var false [IV.fsl nl cl z x]])
           else none
         else none
       else none
     else none
   else
     some
       (Ex.exit (nat_lit 0),
         Sx (37 : Nat)
           [IV.fsl none false (nat_lit 8) es,
             IV.fn (nat_lit 33) [IV.ptr (nat_lit 0) (nat_lit 0), IV.ptr (nat_lit 1) (nat_lit 0)],
             IV.int IntKind.i64 (0 : Int), IV.int IntKind.i64 (↑es.length : Int), IV.int IntKind.i64 i]
           [Blk.var false [IV.bool kn], Blk.var false [IV.fsl nl cl z x]])) := by kernel_rfl
theorem st_no (c : Nat → List IV → Bool) (p : List IV → PK) (fa fc : List IV → Int) (k h q a : Int) (nl nl' : Option Bool) (cl cl' : Bool) (b x : List IV) (z : Nat) (kn : Bool) : Cb (tab [(31, rd2P c p fa fc)]) (ltab [(37, 26, LF 37 2 (oneF (stV (p b).es 0 0) (stB kn nl' cl' z x) (.exit 0) (stV (p b).es 0 ((p b).es.length : Int)) (stB kn nl' cl' z x)))]) 26 [.agg [.int .i64 k, .int .u32 h, .int .u32 q, .int .i64 a, .fsl nl cl 1 b], .fsl nl' cl' z x, .bool kn] [] =
  (bif c (1 : Nat) b then
     bif fc b != (0 : Int) then some (IV.bool false, []) else bif sameS (stV (p b).es 0 0) (stB kn nl' cl' z x) then some (IV.bool false, []) else none
   else none) := by kernel_rfl
theorem st_yes (c : Nat → List IV → Bool) (p : List IV → PK) (fa fc : List IV → Int) (k h q a j : Int) (nl nl' : Option Bool) (cl cl' : Bool) (b x : List IV) (z : Nat) (kn : Bool) : Cb (tab [(31, rd2P c p fa fc)]) (ltab [(37, 26, LF 37 2 (oneF (stV (p b).es 0 0) (stB kn nl' cl' z x) .ret (stV (p b).es j j) (stB kn nl' cl' z x)))]) 26 [.agg [.int .i64 k, .int .u32 h, .int .u32 q, .int .i64 a, .fsl nl cl 1 b], .fsl nl' cl' z x, .bool kn] [] =
  (bif c (1 : Nat) b then
     bif fc b != (0 : Int) then some (IV.bool false, [])
     else bif sameS (stV (p b).es 0 0) (stB kn nl' cl' z x) then some (IV.bool (decide (j ≥ (0 : Int))), []) else none
   else none) := by kernel_rfl
end Go.Proofs.Ytgbddcdpbgaojaa
