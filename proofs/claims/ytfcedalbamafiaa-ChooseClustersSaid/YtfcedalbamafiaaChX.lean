/- Intervals: calls, by what their loops come to: what the given program does. It bears no condition. -/
import Derived.Test.YtfcedalbamafiaaChW
-- BYTES bytsX
namespace Go.Proofs.Ytfcedalbamafiaa
open Go Go.Im
set_option linter.unusedVariables false
set_option linter.unusedSimpArgs false
noncomputable section
def oneF (vs0 : List IV) (bx0 : List Blk) (e : Ex) (vs1 : List IV) (bx1 : List Blk) : LiveF := fun vs bx => [(@decide (vs = vs0 ∧ bx = bx0) (Classical.propDecidable _), e, vs1, bx1)]
def cstF (b : Bool) (e : Ex) (vs1 : List IV) (bx1 : List Blk) : LiveF := fun _ _ => [(b, e, vs1, bx1)]
def sameS (vs : List IV) (bx : List Blk) : Bool := @decide (vs = vs ∧ bx = bx) (Classical.propDecidable _)
theorem sameS_t {vs : List IV} {bx : List Blk} : sameS vs bx = true := @decide_eq_true _ (Classical.propDecidable _) ⟨rfl, rfl⟩
theorem oneF_mem {vs0 vs vs1 vs' : List IV} {bx0 bx bx1 bx' : List Blk} {e0 e : Ex} (h : (true, e, vs', bx') ∈ oneF vs0 bx0 e0 vs1 bx1 vs bx) : vs = vs0 ∧ bx = bx0 ∧ e = e0 ∧ vs' = vs1 ∧ bx' = bx1 := by
  simp only [oneF, List.mem_cons, List.not_mem_nil, or_false, Prod.mk.injEq, Bool.true_eq, decide_eq_true_eq] at h
  exact ⟨h.1.1, h.1.2, h.2.1, h.2.2.1, h.2.2.2⟩
abbrev LF (f p : Nat) (G : LiveF) : LoopF := loopF Try.prog hint f p G
end
abbrev cvV (nl : Option Bool) (cl : Bool) (z : Nat) (l : List IV) (x n len i : Int) : List IV := [.int .i64 x, .int .i64 n, .fsl nl cl z l, .int .i64 len, .int .i64 i]
abbrev ixV (nl : Option Bool) (cl : Bool) (z : Nat) (l : List IV) (r len i : Int) : List IV := [.fsl nl cl z l, .fn 24 [], .int .i64 r, .int .i64 len, .int .i64 i]
abbrev rgV (nl : Option Bool) (cl : Bool) (z : Nat) (l : List IV) (len i : Int) : List IV := [.fsl nl cl z l, .osl 0 0, .undef, .undef, .undef, .undef, .fsl nl cl z l, .int .i64 len, .int .i64 i, .undef, .undef, .undef]
abbrev rhV (nl : Option Bool) (cl : Bool) (z : Nat) (l : List IV) (len lo hi have_ : Int) (found : Bool) (elen i : Int) : List IV := [.fsl nl cl z l, .osl 0 0, .int .i64 lo, .int .i64 hi, .int .i64 have_, .bool found, .fsl nl cl z l, .int .i64 len, .int .i64 len, .osl 0 0, .int .i64 elen, .int .i64 i]
theorem cov_call (nl : Option Bool) (cl : Bool) (z : Nat) (l : List IV) (x n : Int) : callK Try.prog hint (tab []) (ltab [(12, 58, LF 12 0 (oneF (cvV nl cl z l x 0 (l.length : Int) 0) [] (.exit 0) (cvV nl cl z l x n (l.length : Int) (l.length : Int)) []))]) 30 12 [.fsl nl cl z l, .int .i64 x] [] (fun v T => some (v, T)) =
    bif sameS (cvV nl cl z l x 0 (l.length : Int) 0) [] then some (.int .i64 n, []) else none := by kernel_rfl
theorem cf_no (nl : Option Bool) (cl : Bool) (z : Nat) (l : List IV) : callK Try.prog hint (tab []) (ltab [(33, 26, LF 33 0 (oneF (ixV nl cl z l 0 (l.length : Int) 0) [] (.exit 0) (ixV nl cl z l 0 (l.length : Int) (l.length : Int)) []))]) 30 23 [.fsl nl cl z l, .fn 24 []] [] (fun v T => some (v, T)) =
    bif sameS (ixV nl cl z l 0 (l.length : Int) 0) [] then some (.bool false, []) else none := by kernel_rfl
theorem cf_yes (nl : Option Bool) (cl : Bool) (z : Nat) (l : List IV) (i : Int) : callK Try.prog hint (tab []) (ltab [(33, 26, LF 33 0 (oneF (ixV nl cl z l 0 (l.length : Int) 0) [] .ret (ixV nl cl z l i (l.length : Int) i) []))]) 30 23 [.fsl nl cl z l, .fn 24 []] [] (fun v T => some (v, T)) =
    bif sameS (ixV nl cl z l 0 (l.length : Int) 0) [] then some (.bool (decide (i ≥ (0 : Int))), []) else none := by kernel_rfl
theorem rg_in2 (sp : FuncId → Option SpecF) (nl : Option Bool) (cl : Bool) (z : Nat) (l es : List IV) (len lo hi have_ : Int) (found : Bool) (elen i : Int) : Rd sp 11 1018 (Sx 11 (rhV nl cl z l len lo hi have_ found elen i) [.row 0 false 2 es]) =
  (bif decide (i < elen) then
     bif decide ((0 : Int) ≤ i ∧ i < (↑es.length : Int)) then
       bif decide (i.toNat < es.length) then
         bif
             testAll ([LT.i IntKind.i64] ++ ([LT.i IntKind.i64] ++ [])) (0 : Nat)
               (List.drop (0 : Nat) (nthD es i.toNat).cells) then
           bif decide (Im.intOf (nthD (List.drop (0 : Nat) (nthD es i.toNat).cells) (1 : Nat)) > (0 : Int)) then
             bif
                 bif decide (IntKind.i64.wrap ((2 : Int) * IntKind.i64.wrap (have_ + (1 : Int))) > (↑l.length : Int)) then
                   !found
                 else false then
               some
                 (Ex.normal,
                   Sx (11 : Nat)
                     [IV.fsl nl cl z l, IV.osl (nat_lit 0) (nat_lit 0),
                       IV.int IntKind.i64 (Im.intOf (nthD (List.drop (0 : Nat) (nthD es i.toNat).cells) (0 : Nat))),
                       IV.int IntKind.i64 hi, IV.int IntKind.i64 (IntKind.i64.wrap (have_ + (1 : Int))), IV.bool true,
                       IV.fsl nl cl z l, IV.int IntKind.i64 len, IV.int IntKind.i64 len, IV.osl (nat_lit 0) (nat_lit 0),
                       IV.int IntKind.i64 elen, IV.int IntKind.i64 (IntKind.i64.wrap (i + (1 : Int)))]
                     [Blk.row (nat_lit 0) false (nat_lit 2) es])
             else
               some
                 (Ex.normal,
                   Sx (11 : Nat)
                     [IV.fsl nl cl z l, IV.osl (nat_lit 0) (nat_lit 0), IV.int IntKind.i64 lo, IV.int IntKind.i64 hi,
                       IV.int IntKind.i64 (IntKind.i64.wrap (have_ + (1 : Int))), IV.bool found, IV.fsl nl cl z l,
                       IV.int IntKind.i64 len, IV.int IntKind.i64 len, IV.osl (nat_lit 0) (nat_lit 0),
                       IV.int IntKind.i64 elen, IV.int IntKind.i64 (IntKind.i64.wrap (i + (1 : Int)))]
                     [Blk.row (nat_lit 0) false (nat_lit 2) es])
           else
             bif decide (IntKind.i64.wrap ((2 : Int) * have_) > (↑l.length : Int)) then
               some
                 (Ex.normal,
                   Sx (11 : Nat)
                     [IV.fsl nl cl z l, IV.osl (nat_lit 0) (nat_lit 0), IV.int IntKind.i64 lo,
                       IV.int IntKind.i64 (Im.intOf (nthD (List.drop (0 : Nat) (nthD es i.toNat).cells) (0 : Nat))),
                       IV.int IntKind.i64 (IntKind.i64.wrap (have_ - (1 : Int))), IV.bool found, IV.fsl nl cl z l,
                       IV.int IntKind.i64 len, IV.int IntKind.i64 len, IV.osl (nat_lit 0) (nat_lit 0),
                       IV.int IntKind.i64 elen, IV.int IntKind.i64 (IntKind.i64.wrap (i + (1 : Int)))]
                     [Blk.row (nat_lit 0) false (nat_lit 2) es])
             else
               some
                 (Ex.normal,
                   Sx (11 : Nat)
                     [IV.fsl nl cl z l, IV.osl (nat_lit 0) (nat_lit 0), IV.int IntKind.i64 lo, IV.int IntKind.i64 hi,
                       IV.int IntKind.i64 (IntKind.i64.wrap (have_ - (1 : Int))), IV.bool found, IV.fsl nl cl z l,
                       IV.int IntKind.i64 len, IV.int IntKind.i64 len, IV.osl (nat_lit 0) (nat_lit 0),
                       IV.int IntKind.i64 elen, IV.int IntKind.i64 (IntKind.i64.wrap (i + (1 : Int)))]
                     [Blk.row (nat_lit 0) false (nat_lit 2) es])
         else none
       else none
     else none
   else
     some
       (Ex.exit (nat_lit 2),
         Sx (11 : Nat)
           [IV.fsl nl cl z l, IV.osl (nat_lit 0) (nat_lit 0), IV.int IntKind.i64 lo, IV.int IntKind.i64 hi,
             IV.int IntKind.i64 have_, IV.bool found, IV.fsl nl cl z l, IV.int IntKind.i64 len, IV.int IntKind.i64 len,
             IV.osl (nat_lit 0) (nat_lit 0), IV.int IntKind.i64 elen, IV.int IntKind.i64 i]
           [Blk.row (nat_lit 0) false (nat_lit 2) es])) := by kernel_rfl
def noL : LoopF := fun _ _ => []
theorem rg_bad (nl : Option Bool) (cl : Bool) (z : Nat) (l : List IV) (c : Nat → List IV → Bool) (g : List IV → Bool) : callK Try.prog hint (tab [(23, cfP c g), (25, sortP)]) (ltab [(11, 122, noL)]) 30 11 [.fsl nl cl z l] [] (fun v T => some (v, T)) =
    bif decide ((l.length : Int) > (64 : Int)) == false then bif c z l then bif (bif false then true else g l) then some (.tup [.int .i64 0, .int .i64 0, .int .i64 1], []) else none else none
    else some (.tup [.int .i64 0, .int .i64 0, .int .i64 1], []) := by kernel_rfl
def rgR (found : Bool) (lo hi : Int) : Option (IV × List Blk) := bif !found then some (.tup [.int .i64 0, .int .i64 0, .int .i64 150], []) else some (.tup [.int .i64 lo, .int .i64 hi, .int .i64 0], [])
theorem rg_call (nl : Option Bool) (cl : Bool) (z : Nat) (l es : List IV) (c : Nat → List IV → Bool) (g : List IV → Bool) (lo hi have_ : Int) (found : Bool) : callK Try.prog hint (tab [(23, cfP c g), (25, sortP)]) (ltab [(11, 122, LF 11 0 (oneF (rgV nl cl z l (l.length : Int) 0) [.row 0 false 2 []] (.exit 0) (rgV nl cl z l (l.length : Int) (l.length : Int)) [.row 0 false 2 es])), (11, 1018, LF 11 0 (oneF (rhV nl cl z l (l.length : Int) 0 0 0 false (sortL es).length 0) [.row 0 false 2 (sortL es)] (.exit 2) (rhV nl cl z l (l.length : Int) lo hi have_ found (sortL es).length (sortL es).length) [.row 0 false 2 (sortL es)]))]) 30 11 [.fsl nl cl z l] [] (fun v T => some (v, T)) =
    bif decide ((l.length : Int) > (64 : Int)) == false then bif c z l then bif (bif false then true else g l) then some (.tup [.int .i64 0, .int .i64 0, .int .i64 1], []) else
      bif sameS (rgV nl cl z l (l.length : Int) 0) [.row 0 false 2 []] then bif (Nat.beq 26 26 && Nat.beq 2 2 && decide (es.length ≤ 1000) && es.all isEnd) then
        bif ((sortL es).isEmpty && true) then (bif sameS (rhV nl cl z l (l.length : Int) 0 0 0 false (sortL es).length 0) [.row 0 false 2 (sortL es)] then rgR found lo hi else none)
        else (bif sameS (rhV nl cl z l (l.length : Int) 0 0 0 false (sortL es).length 0) [.row 0 false 2 (sortL es)] then rgR found lo hi else none) else none else none else none
    else some (.tup [.int .i64 0, .int .i64 0, .int .i64 1], []) := by kernel_rfl
end Go.Proofs.Ytfcedalbamafiaa
