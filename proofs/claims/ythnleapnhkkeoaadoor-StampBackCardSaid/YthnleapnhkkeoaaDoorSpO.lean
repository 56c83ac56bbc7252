/- The laws on times' texts: what is proved of the given program. It bears no condition. -/
import Derived.Test.YthnleapnhkkeoaaDoorSpN
-- BYTES bytsO
namespace Go.Proofs.YthnleapnhkkeoaaDoor
open Go Go.Im
set_option linter.unusedVariables false
set_option linter.unusedSimpArgs false
def prP (c : Int → Bool) (g : Int → List UInt8) : SpecF := fun xs T => match xs, T with
  | [.int .u64 x], [] => [(c x, .str (g x), [])]
  | _, _ => []
def paP (c : List UInt8 → Bool) (t e : List UInt8 → Int) : SpecF := fun xs T => match xs, T with
  | [.str s], [] => [(c s, .tup [.int .u64 (t s), .int .i64 (e s)], [])]
  | _, _ => []
abbrev tabPr (c1 : Int → Bool) (g1 g2 : Int → List UInt8) (c2 : List UInt8 → Bool) (t1 e1 t2 e2 : List UInt8 → Int) : FuncId → Option SpecF := tab [(11, aliveF), (16, paP c2 t1 e1), (17, paP c2 t2 e2), (18, prP c1 g1), (19, prP c1 g2)]
theorem prints_tree (t : Int) (s : List UInt8) (c1 : Int → Bool) (g1 g2 : Int → List UInt8) (c2 : List UInt8 → Bool) (t1 e1 t2 e2 : List UInt8 → Int) : C (tabPr c1 g1 g2 c2 t1 e1 t2 e2) 4 [.int .u64 t, .str s] =
  (bif decide ((↑s.length : Int) > (100 : Int)) then some (IV.bool true, [])
   else
     bif c2 s then
       bif c2 s then
         bif c1 t then
           bif c1 t then
             some
               (IV.bool
                   (bif bif bif true then g1 t == g2 t else false then t1 s == t2 s else false then e1 s == e2 s
                   else false),
                 [])
           else none
         else none
       else none
     else none) := by kernel_rfl
theorem back_tree (a b : Int) (c1 : Int → Bool) (g1 g2 : Int → List UInt8) (c2 : List UInt8 → Bool) (t1 e1 t2 e2 : List UInt8 → Int) : C (tabPr c1 g1 g2 c2 t1 e1 t2 e2) 5 [.int .u64 a, .int .u64 b] =
  (bif c1 a then
     bif c2 (g1 a) then
       bif (bif bif true then e1 (g1 a) == (0 : Int) else false then t1 (g1 a) == a else false) == true then
         bif c1 a then bif c1 b then some (IV.bool (bif true then (a == b) == (g1 a == g1 b) else false), []) else none
         else none
       else some (IV.bool false, [])
     else none
   else none) := by kernel_rfl
end Go.Proofs.YthnleapnhkkeoaaDoor
