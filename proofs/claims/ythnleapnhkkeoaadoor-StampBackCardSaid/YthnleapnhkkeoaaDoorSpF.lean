/- What Parse's loop does. It bears no condition. -/
import Derived.Test.YthnleapnhkkeoaaDoorSpE
-- BYTES bytsF
namespace Go.Proofs.YthnleapnhkkeoaaDoor
open Go Go.Im
set_option linter.unusedVariables false
set_option linter.unusedSimpArgs false
variable (sp : FuncId → Option SpecF)

/-- The ten cells. -/
abbrev tenB (c : Nat → Int) : List Blk := [.var false [.int .u8 (c 0), .int .u8 (c 1), .int .u8 (c 2), .int .u8 (c 3), .int .u8 (c 4), .int .u8 (c 5), .int .u8 (c 6), .int .u8 (c 7), .int .u8 (c 8), .int .u8 (c 9)]]
noncomputable abbrev paS (s : List UInt8) (n0 n1 a sec n len i : Int) (b : List Blk) : St := Sx 16 [.str s, .int .u64 n0, .int .i64 n1, .int .i64 a, .int .u64 sec, .int .u64 n, .ptr 0 0, .int .i64 len, .int .i64 i] b
abbrev chr (s : List UInt8) (i : Nat) : Int := ((s.getD i 0).toNat : Int)
abbrev more (x : Int) (s : List UInt8) (i : Nat) : Int := IntKind.u64.wrap (IntKind.u64.wrap ((10 : Int) * x) + IntKind.u64.wrap (IntKind.u8.wrap (chr s i - 48)))
abbrev noDig (s : List UInt8) (i : Nat) : Bool := bif decide (chr s i < 48) then true else decide (chr s i > 57)
theorem pr_1_0 (s : List UInt8) (n0 n1 sec n len : Int) (c : Nat → Int) : Rd sp 16 506 (paS s n0 n1 1 sec n len 0 (tenB c)) =
  (bif decide ((0 : Int) < len) then
     bif decide ((0 : Int) ≤ (0 : Int) ∧ (0 : Int) < (s.length : Int)) then
       bif noDig s 0 then some (.ret, paS s 0 40 1 sec n len 0 (tenB c))
       else some (.normal, paS s n0 n1 1 (more sec s 0) n len (IntKind.i64.wrap ((0 : Int) + 1)) (tenB c))
     else none
   else some (.exit 0, paS s n0 n1 1 sec n len 0 (tenB c))) := by kernel_rfl
theorem pr_1_1 (s : List UInt8) (n0 n1 sec n len : Int) (c : Nat → Int) : Rd sp 16 506 (paS s n0 n1 1 sec n len 1 (tenB c)) =
  (bif decide ((1 : Int) < len) then
     bif decide ((0 : Int) ≤ (1 : Int) ∧ (1 : Int) < (s.length : Int)) then
       some (.normal, paS s n0 n1 1 sec n len (IntKind.i64.wrap ((1 : Int) + 1)) (tenB c))
     else none
   else some (.exit 0, paS s n0 n1 1 sec n len 1 (tenB c))) := by kernel_rfl
theorem pr_1_2 (s : List UInt8) (n0 n1 sec n len : Int) (c : Nat → Int) : Rd sp 16 506 (paS s n0 n1 1 sec n len 2 (tenB c)) =
  (bif decide ((2 : Int) < len) then
     bif decide ((0 : Int) ≤ (2 : Int) ∧ (2 : Int) < (s.length : Int)) then
       bif noDig s 2 then some (.ret, paS s 0 40 1 sec n len 2 (tenB c))
       else some (.normal, paS s n0 n1 1 sec (more n s 2) len (IntKind.i64.wrap ((2 : Int) + 1)) (tenB fun k => bif Nat.beq k 0 then chr s 2 else c k))
     else none
   else some (.exit 0, paS s n0 n1 1 sec n len 2 (tenB c))) := by kernel_rfl
theorem pr_1_3 (s : List UInt8) (n0 n1 sec n len : Int) (c : Nat → Int) : Rd sp 16 506 (paS s n0 n1 1 sec n len 3 (tenB c)) =
  (bif decide ((3 : Int) < len) then
     bif decide ((0 : Int) ≤ (3 : Int) ∧ (3 : Int) < (s.length : Int)) then
       bif noDig s 3 then some (.ret, paS s 0 40 1 sec n len 3 (tenB c))
       else some (.normal, paS s n0 n1 1 sec (more n s 3) len (IntKind.i64.wrap ((3 : Int) + 1)) (tenB fun k => bif Nat.beq k 1 then chr s 3 else c k))
     else none
   else some (.exit 0, paS s n0 n1 1 sec n len 3 (tenB c))) := by kernel_rfl
theorem pr_1_4 (s : List UInt8) (n0 n1 sec n len : Int) (c : Nat → Int) : Rd sp 16 506 (paS s n0 n1 1 sec n len 4 (tenB c)) =
  (bif decide ((4 : Int) < len) then
     bif decide ((0 : Int) ≤ (4 : Int) ∧ (4 : Int) < (s.length : Int)) then
       bif noDig s 4 then some (.ret, paS s 0 40 1 sec n len 4 (tenB c))
       else some (.normal, paS s n0 n1 1 sec (more n s 4) len (IntKind.i64.wrap ((4 : Int) + 1)) (tenB fun k => bif Nat.beq k 2 then chr s 4 else c k))
     else none
   else some (.exit 0, paS s n0 n1 1 sec n len 4 (tenB c))) := by kernel_rfl
theorem pr_1_5 (s : List UInt8) (n0 n1 sec n len : Int) (c : Nat → Int) : Rd sp 16 506 (paS s n0 n1 1 sec n len 5 (tenB c)) =
  (bif decide ((5 : Int) < len) then
     bif decide ((0 : Int) ≤ (5 : Int) ∧ (5 : Int) < (s.length : Int)) then
       bif noDig s 5 then some (.ret, paS s 0 40 1 sec n len 5 (tenB c))
       else some (.normal, paS s n0 n1 1 sec (more n s 5) len (IntKind.i64.wrap ((5 : Int) + 1)) (tenB fun k => bif Nat.beq k 3 then chr s 5 else c k))
     else none
   else some (.exit 0, paS s n0 n1 1 sec n len 5 (tenB c))) := by kernel_rfl
theorem pr_1_6 (s : List UInt8) (n0 n1 sec n len : Int) (c : Nat → Int) : Rd sp 16 506 (paS s n0 n1 1 sec n len 6 (tenB c)) =
  (bif decide ((6 : Int) < len) then
     bif decide ((0 : Int) ≤ (6 : Int) ∧ (6 : Int) < (s.length : Int)) then
       bif noDig s 6 then some (.ret, paS s 0 40 1 sec n len 6 (tenB c))
       else some (.normal, paS s n0 n1 1 sec (more n s 6) len (IntKind.i64.wrap ((6 : Int) + 1)) (tenB fun k => bif Nat.beq k 4 then chr s 6 else c k))
     else none
   else some (.exit 0, paS s n0 n1 1 sec n len 6 (tenB c))) := by kernel_rfl
theorem pr_1_7 (s : List UInt8) (n0 n1 sec n len : Int) (c : Nat → Int) : Rd sp 16 506 (paS s n0 n1 1 sec n len 7 (tenB c)) =
  (bif decide ((7 : Int) < len) then
     bif decide ((0 : Int) ≤ (7 : Int) ∧ (7 : Int) < (s.length : Int)) then
       bif noDig s 7 then some (.ret, paS s 0 40 1 sec n len 7 (tenB c))
       else some (.normal, paS s n0 n1 1 sec (more n s 7) len (IntKind.i64.wrap ((7 : Int) + 1)) (tenB fun k => bif Nat.beq k 5 then chr s 7 else c k))
     else none
   else some (.exit 0, paS s n0 n1 1 sec n len 7 (tenB c))) := by kernel_rfl
theorem pr_1_8 (s : List UInt8) (n0 n1 sec n len : Int) (c : Nat → Int) : Rd sp 16 506 (paS s n0 n1 1 sec n len 8 (tenB c)) =
  (bif decide ((8 : Int) < len) then
     bif decide ((0 : Int) ≤ (8 : Int) ∧ (8 : Int) < (s.length : Int)) then
       bif noDig s 8 then some (.ret, paS s 0 40 1 sec n len 8 (tenB c))
       else some (.normal, paS s n0 n1 1 sec (more n s 8) len (IntKind.i64.wrap ((8 : Int) + 1)) (tenB fun k => bif Nat.beq k 6 then chr s 8 else c k))
     else none
   else some (.exit 0, paS s n0 n1 1 sec n len 8 (tenB c))) := by kernel_rfl
theorem pr_1_9 (s : List UInt8) (n0 n1 sec n len : Int) (c : Nat → Int) : Rd sp 16 506 (paS s n0 n1 1 sec n len 9 (tenB c)) =
  (bif decide ((9 : Int) < len) then
     bif decide ((0 : Int) ≤ (9 : Int) ∧ (9 : Int) < (s.length : Int)) then
       bif noDig s 9 then some (.ret, paS s 0 40 1 sec n len 9 (tenB c))
       else some (.normal, paS s n0 n1 1 sec (more n s 9) len (IntKind.i64.wrap ((9 : Int) + 1)) (tenB fun k => bif Nat.beq k 7 then chr s 9 else c k))
     else none
   else some (.exit 0, paS s n0 n1 1 sec n len 9 (tenB c))) := by kernel_rfl
theorem pr_1_10 (s : List UInt8) (n0 n1 sec n len : Int) (c : Nat → Int) : Rd sp 16 506 (paS s n0 n1 1 sec n len 10 (tenB c)) =
  (bif decide ((10 : Int) < len) then
     bif decide ((0 : Int) ≤ (10 : Int) ∧ (10 : Int) < (s.length : Int)) then
       bif noDig s 10 then some (.ret, paS s 0 40 1 sec n len 10 (tenB c))
       else some (.normal, paS s n0 n1 1 sec (more n s 10) len (IntKind.i64.wrap ((10 : Int) + 1)) (tenB fun k => bif Nat.beq k 8 then chr s 10 else c k))
     else none
   else some (.exit 0, paS s n0 n1 1 sec n len 10 (tenB c))) := by kernel_rfl
theorem pr_1_11 (s : List UInt8) (n0 n1 sec n len : Int) (c : Nat → Int) : Rd sp 16 506 (paS s n0 n1 1 sec n len 11 (tenB c)) =
  (bif decide ((11 : Int) < len) then
     bif decide ((0 : Int) ≤ (11 : Int) ∧ (11 : Int) < (s.length : Int)) then
       bif noDig s 11 then some (.ret, paS s 0 40 1 sec n len 11 (tenB c))
       else some (.normal, paS s n0 n1 1 sec (more n s 11) len (IntKind.i64.wrap ((11 : Int) + 1)) (tenB fun k => bif Nat.beq k 9 then chr s 11 else c k))
     else none
   else some (.exit 0, paS s n0 n1 1 sec n len 11 (tenB c))) := by kernel_rfl
theorem pr_2_0 (s : List UInt8) (n0 n1 sec n len : Int) (c : Nat → Int) : Rd sp 16 506 (paS s n0 n1 2 sec n len 0 (tenB c)) =
  (bif decide ((0 : Int) < len) then
     bif decide ((0 : Int) ≤ (0 : Int) ∧ (0 : Int) < (s.length : Int)) then
       bif noDig s 0 then some (.ret, paS s 0 40 2 sec n len 0 (tenB c))
       else some (.normal, paS s n0 n1 2 (more sec s 0) n len (IntKind.i64.wrap ((0 : Int) + 1)) (tenB c))
     else none
   else some (.exit 0, paS s n0 n1 2 sec n len 0 (tenB c))) := by kernel_rfl
theorem pr_2_1 (s : List UInt8) (n0 n1 sec n len : Int) (c : Nat → Int) : Rd sp 16 506 (paS s n0 n1 2 sec n len 1 (tenB c)) =
  (bif decide ((1 : Int) < len) then
     bif decide ((0 : Int) ≤ (1 : Int) ∧ (1 : Int) < (s.length : Int)) then
       bif noDig s 1 then some (.ret, paS s 0 40 2 sec n len 1 (tenB c))
       else some (.normal, paS s n0 n1 2 (more sec s 1) n len (IntKind.i64.wrap ((1 : Int) + 1)) (tenB c))
     else none
   else some (.exit 0, paS s n0 n1 2 sec n len 1 (tenB c))) := by kernel_rfl
theorem pr_2_2 (s : List UInt8) (n0 n1 sec n len : Int) (c : Nat → Int) : Rd sp 16 506 (paS s n0 n1 2 sec n len 2 (tenB c)) =
  (bif decide ((2 : Int) < len) then
     bif decide ((0 : Int) ≤ (2 : Int) ∧ (2 : Int) < (s.length : Int)) then
       some (.normal, paS s n0 n1 2 sec n len (IntKind.i64.wrap ((2 : Int) + 1)) (tenB c))
     else none
   else some (.exit 0, paS s n0 n1 2 sec n len 2 (tenB c))) := by kernel_rfl
theorem pr_2_3 (s : List UInt8) (n0 n1 sec n len : Int) (c : Nat → Int) : Rd sp 16 506 (paS s n0 n1 2 sec n len 3 (tenB c)) =
  (bif decide ((3 : Int) < len) then
     bif decide ((0 : Int) ≤ (3 : Int) ∧ (3 : Int) < (s.length : Int)) then
       bif noDig s 3 then some (.ret, paS s 0 40 2 sec n len 3 (tenB c))
       else some (.normal, paS s n0 n1 2 sec (more n s 3) len (IntKind.i64.wrap ((3 : Int) + 1)) (tenB fun k => bif Nat.beq k 0 then chr s 3 else c k))
     else none
   else some (.exit 0, paS s n0 n1 2 sec n len 3 (tenB c))) := by kernel_rfl
theorem pr_2_4 (s : List UInt8) (n0 n1 sec n len : Int) (c : Nat → Int) : Rd sp 16 506 (paS s n0 n1 2 sec n len 4 (tenB c)) =
  (bif decide ((4 : Int) < len) then
     bif decide ((0 : Int) ≤ (4 : Int) ∧ (4 : Int) < (s.length : Int)) then
       bif noDig s 4 then some (.ret, paS s 0 40 2 sec n len 4 (tenB c))
       else some (.normal, paS s n0 n1 2 sec (more n s 4) len (IntKind.i64.wrap ((4 : Int) + 1)) (tenB fun k => bif Nat.beq k 1 then chr s 4 else c k))
     else none
   else some (.exit 0, paS s n0 n1 2 sec n len 4 (tenB c))) := by kernel_rfl
theorem pr_2_5 (s : List UInt8) (n0 n1 sec n len : Int) (c : Nat → Int) : Rd sp 16 506 (paS s n0 n1 2 sec n len 5 (tenB c)) =
  (bif decide ((5 : Int) < len) then
     bif decide ((0 : Int) ≤ (5 : Int) ∧ (5 : Int) < (s.length : Int)) then
       bif noDig s 5 then some (.ret, paS s 0 40 2 sec n len 5 (tenB c))
       else some (.normal, paS s n0 n1 2 sec (more n s 5) len (IntKind.i64.wrap ((5 : Int) + 1)) (tenB fun k => bif Nat.beq k 2 then chr s 5 else c k))
     else none
   else some (.exit 0, paS s n0 n1 2 sec n len 5 (tenB c))) := by kernel_rfl
theorem pr_2_6 (s : List UInt8) (n0 n1 sec n len : Int) (c : Nat → Int) : Rd sp 16 506 (paS s n0 n1 2 sec n len 6 (tenB c)) =
  (bif decide ((6 : Int) < len) then
     bif decide ((0 : Int) ≤ (6 : Int) ∧ (6 : Int) < (s.length : Int)) then
       bif noDig s 6 then some (.ret, paS s 0 40 2 sec n len 6 (tenB c))
       else some (.normal, paS s n0 n1 2 sec (more n s 6) len (IntKind.i64.wrap ((6 : Int) + 1)) (tenB fun k => bif Nat.beq k 3 then chr s 6 else c k))
     else none
   else some (.exit 0, paS s n0 n1 2 sec n len 6 (tenB c))) := by kernel_rfl
theorem pr_2_7 (s : List UInt8) (n0 n1 sec n len : Int) (c : Nat → Int) : Rd sp 16 506 (paS s n0 n1 2 sec n len 7 (tenB c)) =
  (bif decide ((7 : Int) < len) then
     bif decide ((0 : Int) ≤ (7 : Int) ∧ (7 : Int) < (s.length : Int)) then
       bif noDig s 7 then some (.ret, paS s 0 40 2 sec n len 7 (tenB c))
       else some (.normal, paS s n0 n1 2 sec (more n s 7) len (IntKind.i64.wrap ((7 : Int) + 1)) (tenB fun k => bif Nat.beq k 4 then chr s 7 else c k))
     else none
   else some (.exit 0, paS s n0 n1 2 sec n len 7 (tenB c))) := by kernel_rfl
theorem pr_2_8 (s : List UInt8) (n0 n1 sec n len : Int) (c : Nat → Int) : Rd sp 16 506 (paS s n0 n1 2 sec n len 8 (tenB c)) =
  (bif decide ((8 : Int) < len) then
     bif decide ((0 : Int) ≤ (8 : Int) ∧ (8 : Int) < (s.length : Int)) then
       bif noDig s 8 then some (.ret, paS s 0 40 2 sec n len 8 (tenB c))
       else some (.normal, paS s n0 n1 2 sec (more n s 8) len (IntKind.i64.wrap ((8 : Int) + 1)) (tenB fun k => bif Nat.beq k 5 then chr s 8 else c k))
     else none
   else some (.exit 0, paS s n0 n1 2 sec n len 8 (tenB c))) := by kernel_rfl
theorem pr_2_9 (s : List UInt8) (n0 n1 sec n len : Int) (c : Nat → Int) : Rd sp 16 506 (paS s n0 n1 2 sec n len 9 (tenB c)) =
  (bif decide ((9 : Int) < len) then
     bif decide ((0 : Int) ≤ (9 : Int) ∧ (9 : Int) < (s.length : Int)) then
       bif noDig s 9 then some (.ret, paS s 0 40 2 sec n len 9 (tenB c))
       else some (.normal, paS s n0 n1 2 sec (more n s 9) len (IntKind.i64.wrap ((9 : Int) + 1)) (tenB fun k => bif Nat.beq k 6 then chr s 9 else c k))
     else none
   else some (.exit 0, paS s n0 n1 2 sec n len 9 (tenB c))) := by kernel_rfl
theorem pr_2_10 (s : List UInt8) (n0 n1 sec n len : Int) (c : Nat → Int) : Rd sp 16 506 (paS s n0 n1 2 sec n len 10 (tenB c)) =
  (bif decide ((10 : Int) < len) then
     bif decide ((0 : Int) ≤ (10 : Int) ∧ (10 : Int) < (s.length : Int)) then
       bif noDig s 10 then some (.ret, paS s 0 40 2 sec n len 10 (tenB c))
       else some (.normal, paS s n0 n1 2 sec (more n s 10) len (IntKind.i64.wrap ((10 : Int) + 1)) (tenB fun k => bif Nat.beq k 7 then chr s 10 else c k))
     else none
   else some (.exit 0, paS s n0 n1 2 sec n len 10 (tenB c))) := by kernel_rfl
theorem pr_2_11 (s : List UInt8) (n0 n1 sec n len : Int) (c : Nat → Int) : Rd sp 16 506 (paS s n0 n1 2 sec n len 11 (tenB c)) =
  (bif decide ((11 : Int) < len) then
     bif decide ((0 : Int) ≤ (11 : Int) ∧ (11 : Int) < (s.length : Int)) then
       bif noDig s 11 then some (.ret, paS s 0 40 2 sec n len 11 (tenB c))
       else some (.normal, paS s n0 n1 2 sec (more n s 11) len (IntKind.i64.wrap ((11 : Int) + 1)) (tenB fun k => bif Nat.beq k 8 then chr s 11 else c k))
     else none
   else some (.exit 0, paS s n0 n1 2 sec n len 11 (tenB c))) := by kernel_rfl
theorem pr_2_12 (s : List UInt8) (n0 n1 sec n len : Int) (c : Nat → Int) : Rd sp 16 506 (paS s n0 n1 2 sec n len 12 (tenB c)) =
  (bif decide ((12 : Int) < len) then
     bif decide ((0 : Int) ≤ (12 : Int) ∧ (12 : Int) < (s.length : Int)) then
       bif noDig s 12 then some (.ret, paS s 0 40 2 sec n len 12 (tenB c))
       else some (.normal, paS s n0 n1 2 sec (more n s 12) len (IntKind.i64.wrap ((12 : Int) + 1)) (tenB fun k => bif Nat.beq k 9 then chr s 12 else c k))
     else none
   else some (.exit 0, paS s n0 n1 2 sec n len 12 (tenB c))) := by kernel_rfl
theorem pr_3_0 (s : List UInt8) (n0 n1 sec n len : Int) (c : Nat → Int) : Rd sp 16 506 (paS s n0 n1 3 sec n len 0 (tenB c)) =
  (bif decide ((0 : Int) < len) then
     bif decide ((0 : Int) ≤ (0 : Int) ∧ (0 : Int) < (s.length : Int)) then
       bif noDig s 0 then some (.ret, paS s 0 40 3 sec n len 0 (tenB c))
       else some (.normal, paS s n0 n1 3 (more sec s 0) n len (IntKind.i64.wrap ((0 : Int) + 1)) (tenB c))
     else none
   else some (.exit 0, paS s n0 n1 3 sec n len 0 (tenB c))) := by kernel_rfl
theorem pr_3_1 (s : List UInt8) (n0 n1 sec n len : Int) (c : Nat → Int) : Rd sp 16 506 (paS s n0 n1 3 sec n len 1 (tenB c)) =
  (bif decide ((1 : Int) < len) then
     bif decide ((0 : Int) ≤ (1 : Int) ∧ (1 : Int) < (s.length : Int)) then
       bif noDig s 1 then some (.ret, paS s 0 40 3 sec n len 1 (tenB c))
       else some (.normal, paS s n0 n1 3 (more sec s 1) n len (IntKind.i64.wrap ((1 : Int) + 1)) (tenB c))
     else none
   else some (.exit 0, paS s n0 n1 3 sec n len 1 (tenB c))) := by kernel_rfl
theorem pr_3_2 (s : List UInt8) (n0 n1 sec n len : Int) (c : Nat → Int) : Rd sp 16 506 (paS s n0 n1 3 sec n len 2 (tenB c)) =
  (bif decide ((2 : Int) < len) then
     bif decide ((0 : Int) ≤ (2 : Int) ∧ (2 : Int) < (s.length : Int)) then
       bif noDig s 2 then some (.ret, paS s 0 40 3 sec n len 2 (tenB c))
       else some (.normal, paS s n0 n1 3 (more sec s 2) n len (IntKind.i64.wrap ((2 : Int) + 1)) (tenB c))
     else none
   else some (.exit 0, paS s n0 n1 3 sec n len 2 (tenB c))) := by kernel_rfl
theorem pr_3_3 (s : List UInt8) (n0 n1 sec n len : Int) (c : Nat → Int) : Rd sp 16 506 (paS s n0 n1 3 sec n len 3 (tenB c)) =
  (bif decide ((3 : Int) < len) then
     bif decide ((0 : Int) ≤ (3 : Int) ∧ (3 : Int) < (s.length : Int)) then
       some (.normal, paS s n0 n1 3 sec n len (IntKind.i64.wrap ((3 : Int) + 1)) (tenB c))
     else none
   else some (.exit 0, paS s n0 n1 3 sec n len 3 (tenB c))) := by kernel_rfl
theorem pr_3_4 (s : List UInt8) (n0 n1 sec n len : Int) (c : Nat → Int) : Rd sp 16 506 (paS s n0 n1 3 sec n len 4 (tenB c)) =
  (bif decide ((4 : Int) < len) then
     bif decide ((0 : Int) ≤ (4 : Int) ∧ (4 : Int) < (s.length : Int)) then
       bif noDig s 4 then some (.ret, paS s 0 40 3 sec n len 4 (tenB c))
       else some (.normal, paS s n0 n1 3 sec (more n s 4) len (IntKind.i64.wrap ((4 : Int) + 1)) (tenB fun k => bif Nat.beq k 0 then chr s 4 else c k))
     else none
   else some (.exit 0, paS s n0 n1 3 sec n len 4 (tenB c))) := by kernel_rfl
theorem pr_3_5 (s : List UInt8) (n0 n1 sec n len : Int) (c : Nat → Int) : Rd sp 16 506 (paS s n0 n1 3 sec n len 5 (tenB c)) =
  (bif decide ((5 : Int) < len) then
     bif decide ((0 : Int) ≤ (5 : Int) ∧ (5 : Int) < (s.length : Int)) then
       bif noDig s 5 then some (.ret, paS s 0 40 3 sec n len 5 (tenB c))
       else some (.normal, paS s n0 n1 3 sec (more n s 5) len (IntKind.i64.wrap ((5 : Int) + 1)) (tenB fun k => bif Nat.beq k 1 then chr s 5 else c k))
     else none
   else some (.exit 0, paS s n0 n1 3 sec n len 5 (tenB c))) := by kernel_rfl
theorem pr_3_6 (s : List UInt8) (n0 n1 sec n len : Int) (c : Nat → Int) : Rd sp 16 506 (paS s n0 n1 3 sec n len 6 (tenB c)) =
  (bif decide ((6 : Int) < len) then
     bif decide ((0 : Int) ≤ (6 : Int) ∧ (6 : Int) < (s.length : Int)) then
       bif noDig s 6 then some (.ret, paS s 0 40 3 sec n len 6 (tenB c))
       else some (.normal, paS s n0 n1 3 sec (more n s 6) len (IntKind.i64.wrap ((6 : Int) + 1)) (tenB fun k => bif Nat.beq k 2 then chr s 6 else c k))
     else none
   else some (.exit 0, paS s n0 n1 3 sec n len 6 (tenB c))) := by kernel_rfl
theorem pr_3_7 (s : List UInt8) (n0 n1 sec n len : Int) (c : Nat → Int) : Rd sp 16 506 (paS s n0 n1 3 sec n len 7 (tenB c)) =
  (bif decide ((7 : Int) < len) then
     bif decide ((0 : Int) ≤ (7 : Int) ∧ (7 : Int) < (s.length : Int)) then
       bif noDig s 7 then some (.ret, paS s 0 40 3 sec n len 7 (tenB c))
       else some (.normal, paS s n0 n1 3 sec (more n s 7) len (IntKind.i64.wrap ((7 : Int) + 1)) (tenB fun k => bif Nat.beq k 3 then chr s 7 else c k))
     else none
   else some (.exit 0, paS s n0 n1 3 sec n len 7 (tenB c))) := by kernel_rfl
theorem pr_3_8 (s : List UInt8) (n0 n1 sec n len : Int) (c : Nat → Int) : Rd sp 16 506 (paS s n0 n1 3 sec n len 8 (tenB c)) =
  (bif decide ((8 : Int) < len) then
     bif decide ((0 : Int) ≤ (8 : Int) ∧ (8 : Int) < (s.length : Int)) then
       bif noDig s 8 then some (.ret, paS s 0 40 3 sec n len 8 (tenB c))
       else some (.normal, paS s n0 n1 3 sec (more n s 8) len (IntKind.i64.wrap ((8 : Int) + 1)) (tenB fun k => bif Nat.beq k 4 then chr s 8 else c k))
     else none
   else some (.exit 0, paS s n0 n1 3 sec n len 8 (tenB c))) := by kernel_rfl
theorem pr_3_9 (s : List UInt8) (n0 n1 sec n len : Int) (c : Nat → Int) : Rd sp 16 506 (paS s n0 n1 3 sec n len 9 (tenB c)) =
  (bif decide ((9 : Int) < len) then
     bif decide ((0 : Int) ≤ (9 : Int) ∧ (9 : Int) < (s.length : Int)) then
       bif noDig s 9 then some (.ret, paS s 0 40 3 sec n len 9 (tenB c))
       else some (.normal, paS s n0 n1 3 sec (more n s 9) len (IntKind.i64.wrap ((9 : Int) + 1)) (tenB fun k => bif Nat.beq k 5 then chr s 9 else c k))
     else none
   else some (.exit 0, paS s n0 n1 3 sec n len 9 (tenB c))) := by kernel_rfl
theorem pr_3_10 (s : List UInt8) (n0 n1 sec n len : Int) (c : Nat → Int) : Rd sp 16 506 (paS s n0 n1 3 sec n len 10 (tenB c)) =
  (bif decide ((10 : Int) < len) then
     bif decide ((0 : Int) ≤ (10 : Int) ∧ (10 : Int) < (s.length : Int)) then
       bif noDig s 10 then some (.ret, paS s 0 40 3 sec n len 10 (tenB c))
       else some (.normal, paS s n0 n1 3 sec (more n s 10) len (IntKind.i64.wrap ((10 : Int) + 1)) (tenB fun k => bif Nat.beq k 6 then chr s 10 else c k))
     else none
   else some (.exit 0, paS s n0 n1 3 sec n len 10 (tenB c))) := by kernel_rfl
theorem pr_3_11 (s : List UInt8) (n0 n1 sec n len : Int) (c : Nat → Int) : Rd sp 16 506 (paS s n0 n1 3 sec n len 11 (tenB c)) =
  (bif decide ((11 : Int) < len) then
     bif decide ((0 : Int) ≤ (11 : Int) ∧ (11 : Int) < (s.length : Int)) then
       bif noDig s 11 then some (.ret, paS s 0 40 3 sec n len 11 (tenB c))
       else some (.normal, paS s n0 n1 3 sec (more n s 11) len (IntKind.i64.wrap ((11 : Int) + 1)) (tenB fun k => bif Nat.beq k 7 then chr s 11 else c k))
     else none
   else some (.exit 0, paS s n0 n1 3 sec n len 11 (tenB c))) := by kernel_rfl
theorem pr_3_12 (s : List UInt8) (n0 n1 sec n len : Int) (c : Nat → Int) : Rd sp 16 506 (paS s n0 n1 3 sec n len 12 (tenB c)) =
  (bif decide ((12 : Int) < len) then
     bif decide ((0 : Int) ≤ (12 : Int) ∧ (12 : Int) < (s.length : Int)) then
       bif noDig s 12 then some (.ret, paS s 0 40 3 sec n len 12 (tenB c))
       else some (.normal, paS s n0 n1 3 sec (more n s 12) len (IntKind.i64.wrap ((12 : Int) + 1)) (tenB fun k => bif Nat.beq k 8 then chr s 12 else c k))
     else none
   else some (.exit 0, paS s n0 n1 3 sec n len 12 (tenB c))) := by kernel_rfl
theorem pr_3_13 (s : List UInt8) (n0 n1 sec n len : Int) (c : Nat → Int) : Rd sp 16 506 (paS s n0 n1 3 sec n len 13 (tenB c)) =
  (bif decide ((13 : Int) < len) then
     bif decide ((0 : Int) ≤ (13 : Int) ∧ (13 : Int) < (s.length : Int)) then
       bif noDig s 13 then some (.ret, paS s 0 40 3 sec n len 13 (tenB c))
       else some (.normal, paS s n0 n1 3 sec (more n s 13) len (IntKind.i64.wrap ((13 : Int) + 1)) (tenB fun k => bif Nat.beq k 9 then chr s 13 else c k))
     else none
   else some (.exit 0, paS s n0 n1 3 sec n len 13 (tenB c))) := by kernel_rfl
theorem pr_4_0 (s : List UInt8) (n0 n1 sec n len : Int) (c : Nat → Int) : Rd sp 16 506 (paS s n0 n1 4 sec n len 0 (tenB c)) =
  (bif decide ((0 : Int) < len) then
     bif decide ((0 : Int) ≤ (0 : Int) ∧ (0 : Int) < (s.length : Int)) then
       bif noDig s 0 then some (.ret, paS s 0 40 4 sec n len 0 (tenB c))
       else some (.normal, paS s n0 n1 4 (more sec s 0) n len (IntKind.i64.wrap ((0 : Int) + 1)) (tenB c))
     else none
   else some (.exit 0, paS s n0 n1 4 sec n len 0 (tenB c))) := by kernel_rfl
theorem pr_4_1 (s : List UInt8) (n0 n1 sec n len : Int) (c : Nat → Int) : Rd sp 16 506 (paS s n0 n1 4 sec n len 1 (tenB c)) =
  (bif decide ((1 : Int) < len) then
     bif decide ((0 : Int) ≤ (1 : Int) ∧ (1 : Int) < (s.length : Int)) then
       bif noDig s 1 then some (.ret, paS s 0 40 4 sec n len 1 (tenB c))
       else some (.normal, paS s n0 n1 4 (more sec s 1) n len (IntKind.i64.wrap ((1 : Int) + 1)) (tenB c))
     else none
   else some (.exit 0, paS s n0 n1 4 sec n len 1 (tenB c))) := by kernel_rfl
theorem pr_4_2 (s : List UInt8) (n0 n1 sec n len : Int) (c : Nat → Int) : Rd sp 16 506 (paS s n0 n1 4 sec n len 2 (tenB c)) =
  (bif decide ((2 : Int) < len) then
     bif decide ((0 : Int) ≤ (2 : Int) ∧ (2 : Int) < (s.length : Int)) then
       bif noDig s 2 then some (.ret, paS s 0 40 4 sec n len 2 (tenB c))
       else some (.normal, paS s n0 n1 4 (more sec s 2) n len (IntKind.i64.wrap ((2 : Int) + 1)) (tenB c))
     else none
   else some (.exit 0, paS s n0 n1 4 sec n len 2 (tenB c))) := by kernel_rfl
theorem pr_4_3 (s : List UInt8) (n0 n1 sec n len : Int) (c : Nat → Int) : Rd sp 16 506 (paS s n0 n1 4 sec n len 3 (tenB c)) =
  (bif decide ((3 : Int) < len) then
     bif decide ((0 : Int) ≤ (3 : Int) ∧ (3 : Int) < (s.length : Int)) then
       bif noDig s 3 then some (.ret, paS s 0 40 4 sec n len 3 (tenB c))
       else some (.normal, paS s n0 n1 4 (more sec s 3) n len (IntKind.i64.wrap ((3 : Int) + 1)) (tenB c))
     else none
   else some (.exit 0, paS s n0 n1 4 sec n len 3 (tenB c))) := by kernel_rfl
theorem pr_4_4 (s : List UInt8) (n0 n1 sec n len : Int) (c : Nat → Int) : Rd sp 16 506 (paS s n0 n1 4 sec n len 4 (tenB c)) =
  (bif decide ((4 : Int) < len) then
     bif decide ((0 : Int) ≤ (4 : Int) ∧ (4 : Int) < (s.length : Int)) then
       some (.normal, paS s n0 n1 4 sec n len (IntKind.i64.wrap ((4 : Int) + 1)) (tenB c))
     else none
   else some (.exit 0, paS s n0 n1 4 sec n len 4 (tenB c))) := by kernel_rfl
theorem pr_4_5 (s : List UInt8) (n0 n1 sec n len : Int) (c : Nat → Int) : Rd sp 16 506 (paS s n0 n1 4 sec n len 5 (tenB c)) =
  (bif decide ((5 : Int) < len) then
     bif decide ((0 : Int) ≤ (5 : Int) ∧ (5 : Int) < (s.length : Int)) then
       bif noDig s 5 then some (.ret, paS s 0 40 4 sec n len 5 (tenB c))
       else some (.normal, paS s n0 n1 4 sec (more n s 5) len (IntKind.i64.wrap ((5 : Int) + 1)) (tenB fun k => bif Nat.beq k 0 then chr s 5 else c k))
     else none
   else some (.exit 0, paS s n0 n1 4 sec n len 5 (tenB c))) := by kernel_rfl
theorem pr_4_6 (s : List UInt8) (n0 n1 sec n len : Int) (c : Nat → Int) : Rd sp 16 506 (paS s n0 n1 4 sec n len 6 (tenB c)) =
  (bif decide ((6 : Int) < len) then
     bif decide ((0 : Int) ≤ (6 : Int) ∧ (6 : Int) < (s.length : Int)) then
       bif noDig s 6 then some (.ret, paS s 0 40 4 sec n len 6 (tenB c))
       else some (.normal, paS s n0 n1 4 sec (more n s 6) len (IntKind.i64.wrap ((6 : Int) + 1)) (tenB fun k => bif Nat.beq k 1 then chr s 6 else c k))
     else none
   else some (.exit 0, paS s n0 n1 4 sec n len 6 (tenB c))) := by kernel_rfl
theorem pr_4_7 (s : List UInt8) (n0 n1 sec n len : Int) (c : Nat → Int) : Rd sp 16 506 (paS s n0 n1 4 sec n len 7 (tenB c)) =
  (bif decide ((7 : Int) < len) then
     bif decide ((0 : Int) ≤ (7 : Int) ∧ (7 : Int) < (s.length : Int)) then
       bif noDig s 7 then some (.ret, paS s 0 40 4 sec n len 7 (tenB c))
       else some (.normal, paS s n0 n1 4 sec (more n s 7) len (IntKind.i64.wrap ((7 : Int) + 1)) (tenB fun k => bif Nat.beq k 2 then chr s 7 else c k))
     else none
   else some (.exit 0, paS s n0 n1 4 sec n len 7 (tenB c))) := by kernel_rfl
theorem pr_4_8 (s : List UInt8) (n0 n1 sec n len : Int) (c : Nat → Int) : Rd sp 16 506 (paS s n0 n1 4 sec n len 8 (tenB c)) =
  (bif decide ((8 : Int) < len) then
     bif decide ((0 : Int) ≤ (8 : Int) ∧ (8 : Int) < (s.length : Int)) then
       bif noDig s 8 then some (.ret, paS s 0 40 4 sec n len 8 (tenB c))
       else some (.normal, paS s n0 n1 4 sec (more n s 8) len (IntKind.i64.wrap ((8 : Int) + 1)) (tenB fun k => bif Nat.beq k 3 then chr s 8 else c k))
     else none
   else some (.exit 0, paS s n0 n1 4 sec n len 8 (tenB c))) := by kernel_rfl
theorem pr_4_9 (s : List UInt8) (n0 n1 sec n len : Int) (c : Nat → Int) : Rd sp 16 506 (paS s n0 n1 4 sec n len 9 (tenB c)) =
  (bif decide ((9 : Int) < len) then
     bif decide ((0 : Int) ≤ (9 : Int) ∧ (9 : Int) < (s.length : Int)) then
       bif noDig s 9 then some (.ret, paS s 0 40 4 sec n len 9 (tenB c))
       else some (.normal, paS s n0 n1 4 sec (more n s 9) len (IntKind.i64.wrap ((9 : Int) + 1)) (tenB fun k => bif Nat.beq k 4 then chr s 9 else c k))
     else none
   else some (.exit 0, paS s n0 n1 4 sec n len 9 (tenB c))) := by kernel_rfl
theorem pr_4_10 (s : List UInt8) (n0 n1 sec n len : Int) (c : Nat → Int) : Rd sp 16 506 (paS s n0 n1 4 sec n len 10 (tenB c)) =
  (bif decide ((10 : Int) < len) then
     bif decide ((0 : Int) ≤ (10 : Int) ∧ (10 : Int) < (s.length : Int)) then
       bif noDig s 10 then some (.ret, paS s 0 40 4 sec n len 10 (tenB c))
       else some (.normal, paS s n0 n1 4 sec (more n s 10) len (IntKind.i64.wrap ((10 : Int) + 1)) (tenB fun k => bif Nat.beq k 5 then chr s 10 else c k))
     else none
   else some (.exit 0, paS s n0 n1 4 sec n len 10 (tenB c))) := by kernel_rfl
theorem pr_4_11 (s : List UInt8) (n0 n1 sec n len : Int) (c : Nat → Int) : Rd sp 16 506 (paS s n0 n1 4 sec n len 11 (tenB c)) =
  (bif decide ((11 : Int) < len) then
     bif decide ((0 : Int) ≤ (11 : Int) ∧ (11 : Int) < (s.length : Int)) then
       bif noDig s 11 then some (.ret, paS s 0 40 4 sec n len 11 (tenB c))
       else some (.normal, paS s n0 n1 4 sec (more n s 11) len (IntKind.i64.wrap ((11 : Int) + 1)) (tenB fun k => bif Nat.beq k 6 then chr s 11 else c k))
     else none
   else some (.exit 0, paS s n0 n1 4 sec n len 11 (tenB c))) := by kernel_rfl
theorem pr_4_12 (s : List UInt8) (n0 n1 sec n len : Int) (c : Nat → Int) : Rd sp 16 506 (paS s n0 n1 4 sec n len 12 (tenB c)) =
  (bif decide ((12 : Int) < len) then
     bif decide ((0 : Int) ≤ (12 : Int) ∧ (12 : Int) < (s.length : Int)) then
       bif noDig s 12 then some (.ret, paS s 0 40 4 sec n len 12 (tenB c))
       else some (.normal, paS s n0 n1 4 sec (more n s 12) len (IntKind.i64.wrap ((12 : Int) + 1)) (tenB fun k => bif Nat.beq k 7 then chr s 12 else c k))
     else none
   else some (.exit 0, paS s n0 n1 4 sec n len 12 (tenB c))) := by kernel_rfl
theorem pr_4_13 (s : List UInt8) (n0 n1 sec n len : Int) (c : Nat → Int) : Rd sp 16 506 (paS s n0 n1 4 sec n len 13 (tenB c)) =
  (bif decide ((13 : Int) < len) then
     bif decide ((0 : Int) ≤ (13 : Int) ∧ (13 : Int) < (s.length : Int)) then
       bif noDig s 13 then some (.ret, paS s 0 40 4 sec n len 13 (tenB c))
       else some (.normal, paS s n0 n1 4 sec (more n s 13) len (IntKind.i64.wrap ((13 : Int) + 1)) (tenB fun k => bif Nat.beq k 8 then chr s 13 else c k))
     else none
   else some (.exit 0, paS s n0 n1 4 sec n len 13 (tenB c))) := by kernel_rfl
theorem pr_4_14 (s : List UInt8) (n0 n1 sec n len : Int) (c : Nat → Int) : Rd sp 16 506 (paS s n0 n1 4 sec n len 14 (tenB c)) =
  (bif decide ((14 : Int) < len) then
     bif decide ((0 : Int) ≤ (14 : Int) ∧ (14 : Int) < (s.length : Int)) then
       bif noDig s 14 then some (.ret, paS s 0 40 4 sec n len 14 (tenB c))
       else some (.normal, paS s n0 n1 4 sec (more n s 14) len (IntKind.i64.wrap ((14 : Int) + 1)) (tenB fun k => bif Nat.beq k 9 then chr s 14 else c k))
     else none
   else some (.exit 0, paS s n0 n1 4 sec n len 14 (tenB c))) := by kernel_rfl
theorem pr_5_0 (s : List UInt8) (n0 n1 sec n len : Int) (c : Nat → Int) : Rd sp 16 506 (paS s n0 n1 5 sec n len 0 (tenB c)) =
  (bif decide ((0 : Int) < len) then
     bif decide ((0 : Int) ≤ (0 : Int) ∧ (0 : Int) < (s.length : Int)) then
       bif noDig s 0 then some (.ret, paS s 0 40 5 sec n len 0 (tenB c))
       else some (.normal, paS s n0 n1 5 (more sec s 0) n len (IntKind.i64.wrap ((0 : Int) + 1)) (tenB c))
     else none
   else some (.exit 0, paS s n0 n1 5 sec n len 0 (tenB c))) := by kernel_rfl
theorem pr_5_1 (s : List UInt8) (n0 n1 sec n len : Int) (c : Nat → Int) : Rd sp 16 506 (paS s n0 n1 5 sec n len 1 (tenB c)) =
  (bif decide ((1 : Int) < len) then
     bif decide ((0 : Int) ≤ (1 : Int) ∧ (1 : Int) < (s.length : Int)) then
       bif noDig s 1 then some (.ret, paS s 0 40 5 sec n len 1 (tenB c))
       else some (.normal, paS s n0 n1 5 (more sec s 1) n len (IntKind.i64.wrap ((1 : Int) + 1)) (tenB c))
     else none
   else some (.exit 0, paS s n0 n1 5 sec n len 1 (tenB c))) := by kernel_rfl
theorem pr_5_2 (s : List UInt8) (n0 n1 sec n len : Int) (c : Nat → Int) : Rd sp 16 506 (paS s n0 n1 5 sec n len 2 (tenB c)) =
  (bif decide ((2 : Int) < len) then
     bif decide ((0 : Int) ≤ (2 : Int) ∧ (2 : Int) < (s.length : Int)) then
       bif noDig s 2 then some (.ret, paS s 0 40 5 sec n len 2 (tenB c))
       else some (.normal, paS s n0 n1 5 (more sec s 2) n len (IntKind.i64.wrap ((2 : Int) + 1)) (tenB c))
     else none
   else some (.exit 0, paS s n0 n1 5 sec n len 2 (tenB c))) := by kernel_rfl
theorem pr_5_3 (s : List UInt8) (n0 n1 sec n len : Int) (c : Nat → Int) : Rd sp 16 506 (paS s n0 n1 5 sec n len 3 (tenB c)) =
  (bif decide ((3 : Int) < len) then
     bif decide ((0 : Int) ≤ (3 : Int) ∧ (3 : Int) < (s.length : Int)) then
       bif noDig s 3 then some (.ret, paS s 0 40 5 sec n len 3 (tenB c))
       else some (.normal, paS s n0 n1 5 (more sec s 3) n len (IntKind.i64.wrap ((3 : Int) + 1)) (tenB c))
     else none
   else some (.exit 0, paS s n0 n1 5 sec n len 3 (tenB c))) := by kernel_rfl
theorem pr_5_4 (s : List UInt8) (n0 n1 sec n len : Int) (c : Nat → Int) : Rd sp 16 506 (paS s n0 n1 5 sec n len 4 (tenB c)) =
  (bif decide ((4 : Int) < len) then
     bif decide ((0 : Int) ≤ (4 : Int) ∧ (4 : Int) < (s.length : Int)) then
       bif noDig s 4 then some (.ret, paS s 0 40 5 sec n len 4 (tenB c))
       else some (.normal, paS s n0 n1 5 (more sec s 4) n len (IntKind.i64.wrap ((4 : Int) + 1)) (tenB c))
     else none
   else some (.exit 0, paS s n0 n1 5 sec n len 4 (tenB c))) := by kernel_rfl
theorem pr_5_5 (s : List UInt8) (n0 n1 sec n len : Int) (c : Nat → Int) : Rd sp 16 506 (paS s n0 n1 5 sec n len 5 (tenB c)) =
  (bif decide ((5 : Int) < len) then
     bif decide ((0 : Int) ≤ (5 : Int) ∧ (5 : Int) < (s.length : Int)) then
       some (.normal, paS s n0 n1 5 sec n len (IntKind.i64.wrap ((5 : Int) + 1)) (tenB c))
     else none
   else some (.exit 0, paS s n0 n1 5 sec n len 5 (tenB c))) := by kernel_rfl
theorem pr_5_6 (s : List UInt8) (n0 n1 sec n len : Int) (c : Nat → Int) : Rd sp 16 506 (paS s n0 n1 5 sec n len 6 (tenB c)) =
  (bif decide ((6 : Int) < len) then
     bif decide ((0 : Int) ≤ (6 : Int) ∧ (6 : Int) < (s.length : Int)) then
       bif noDig s 6 then some (.ret, paS s 0 40 5 sec n len 6 (tenB c))
       else some (.normal, paS s n0 n1 5 sec (more n s 6) len (IntKind.i64.wrap ((6 : Int) + 1)) (tenB fun k => bif Nat.beq k 0 then chr s 6 else c k))
     else none
   else some (.exit 0, paS s n0 n1 5 sec n len 6 (tenB c))) := by kernel_rfl
theorem pr_5_7 (s : List UInt8) (n0 n1 sec n len : Int) (c : Nat → Int) : Rd sp 16 506 (paS s n0 n1 5 sec n len 7 (tenB c)) =
  (bif decide ((7 : Int) < len) then
     bif decide ((0 : Int) ≤ (7 : Int) ∧ (7 : Int) < (s.length : Int)) then
       bif noDig s 7 then some (.ret, paS s 0 40 5 sec n len 7 (tenB c))
       else some (.normal, paS s n0 n1 5 sec (more n s 7) len (IntKind.i64.wrap ((7 : Int) + 1)) (tenB fun k => bif Nat.beq k 1 then chr s 7 else c k))
     else none
   else some (.exit 0, paS s n0 n1 5 sec n len 7 (tenB c))) := by kernel_rfl
theorem pr_5_8 (s : List UInt8) (n0 n1 sec n len : Int) (c : Nat → Int) : Rd sp 16 506 (paS s n0 n1 5 sec n len 8 (tenB c)) =
  (bif decide ((8 : Int) < len) then
     bif decide ((0 : Int) ≤ (8 : Int) ∧ (8 : Int) < (s.length : Int)) then
       bif noDig s 8 then some (.ret, paS s 0 40 5 sec n len 8 (tenB c))
       else some (.normal, paS s n0 n1 5 sec (more n s 8) len (IntKind.i64.wrap ((8 : Int) + 1)) (tenB fun k => bif Nat.beq k 2 then chr s 8 else c k))
     else none
   else some (.exit 0, paS s n0 n1 5 sec n len 8 (tenB c))) := by kernel_rfl
theorem pr_5_9 (s : List UInt8) (n0 n1 sec n len : Int) (c : Nat → Int) : Rd sp 16 506 (paS s n0 n1 5 sec n len 9 (tenB c)) =
  (bif decide ((9 : Int) < len) then
     bif decide ((0 : Int) ≤ (9 : Int) ∧ (9 : Int) < (s.length : Int)) then
       bif noDig s 9 then some (.ret, paS s 0 40 5 sec n len 9 (tenB c))
       else some (.normal, paS s n0 n1 5 sec (more n s 9) len (IntKind.i64.wrap ((9 : Int) + 1)) (tenB fun k => bif Nat.beq k 3 then chr s 9 else c k))
     else none
   else some (.exit 0, paS s n0 n1 5 sec n len 9 (tenB c))) := by kernel_rfl
theorem pr_5_10 (s : List UInt8) (n0 n1 sec n len : Int) (c : Nat → Int) : Rd sp 16 506 (paS s n0 n1 5 sec n len 10 (tenB c)) =
  (bif decide ((10 : Int) < len) then
     bif decide ((0 : Int) ≤ (10 : Int) ∧ (10 : Int) < (s.length : Int)) then
       bif noDig s 10 then some (.ret, paS s 0 40 5 sec n len 10 (tenB c))
       else some (.normal, paS s n0 n1 5 sec (more n s 10) len (IntKind.i64.wrap ((10 : Int) + 1)) (tenB fun k => bif Nat.beq k 4 then chr s 10 else c k))
     else none
   else some (.exit 0, paS s n0 n1 5 sec n len 10 (tenB c))) := by kernel_rfl
theorem pr_5_11 (s : List UInt8) (n0 n1 sec n len : Int) (c : Nat → Int) : Rd sp 16 506 (paS s n0 n1 5 sec n len 11 (tenB c)) =
  (bif decide ((11 : Int) < len) then
     bif decide ((0 : Int) ≤ (11 : Int) ∧ (11 : Int) < (s.length : Int)) then
       bif noDig s 11 then some (.ret, paS s 0 40 5 sec n len 11 (tenB c))
       else some (.normal, paS s n0 n1 5 sec (more n s 11) len (IntKind.i64.wrap ((11 : Int) + 1)) (tenB fun k => bif Nat.beq k 5 then chr s 11 else c k))
     else none
   else some (.exit 0, paS s n0 n1 5 sec n len 11 (tenB c))) := by kernel_rfl
theorem pr_5_12 (s : List UInt8) (n0 n1 sec n len : Int) (c : Nat → Int) : Rd sp 16 506 (paS s n0 n1 5 sec n len 12 (tenB c)) =
  (bif decide ((12 : Int) < len) then
     bif decide ((0 : Int) ≤ (12 : Int) ∧ (12 : Int) < (s.length : Int)) then
       bif noDig s 12 then some (.ret, paS s 0 40 5 sec n len 12 (tenB c))
       else some (.normal, paS s n0 n1 5 sec (more n s 12) len (IntKind.i64.wrap ((12 : Int) + 1)) (tenB fun k => bif Nat.beq k 6 then chr s 12 else c k))
     else none
   else some (.exit 0, paS s n0 n1 5 sec n len 12 (tenB c))) := by kernel_rfl
theorem pr_5_13 (s : List UInt8) (n0 n1 sec n len : Int) (c : Nat → Int) : Rd sp 16 506 (paS s n0 n1 5 sec n len 13 (tenB c)) =
  (bif decide ((13 : Int) < len) then
     bif decide ((0 : Int) ≤ (13 : Int) ∧ (13 : Int) < (s.length : Int)) then
       bif noDig s 13 then some (.ret, paS s 0 40 5 sec n len 13 (tenB c))
       else some (.normal, paS s n0 n1 5 sec (more n s 13) len (IntKind.i64.wrap ((13 : Int) + 1)) (tenB fun k => bif Nat.beq k 7 then chr s 13 else c k))
     else none
   else some (.exit 0, paS s n0 n1 5 sec n len 13 (tenB c))) := by kernel_rfl
theorem pr_5_14 (s : List UInt8) (n0 n1 sec n len : Int) (c : Nat → Int) : Rd sp 16 506 (paS s n0 n1 5 sec n len 14 (tenB c)) =
  (bif decide ((14 : Int) < len) then
     bif decide ((0 : Int) ≤ (14 : Int) ∧ (14 : Int) < (s.length : Int)) then
       bif noDig s 14 then some (.ret, paS s 0 40 5 sec n len 14 (tenB c))
       else some (.normal, paS s n0 n1 5 sec (more n s 14) len (IntKind.i64.wrap ((14 : Int) + 1)) (tenB fun k => bif Nat.beq k 8 then chr s 14 else c k))
     else none
   else some (.exit 0, paS s n0 n1 5 sec n len 14 (tenB c))) := by kernel_rfl
theorem pr_5_15 (s : List UInt8) (n0 n1 sec n len : Int) (c : Nat → Int) : Rd sp 16 506 (paS s n0 n1 5 sec n len 15 (tenB c)) =
  (bif decide ((15 : Int) < len) then
     bif decide ((0 : Int) ≤ (15 : Int) ∧ (15 : Int) < (s.length : Int)) then
       bif noDig s 15 then some (.ret, paS s 0 40 5 sec n len 15 (tenB c))
       else some (.normal, paS s n0 n1 5 sec (more n s 15) len (IntKind.i64.wrap ((15 : Int) + 1)) (tenB fun k => bif Nat.beq k 9 then chr s 15 else c k))
     else none
   else some (.exit 0, paS s n0 n1 5 sec n len 15 (tenB c))) := by kernel_rfl
theorem pr_6_0 (s : List UInt8) (n0 n1 sec n len : Int) (c : Nat → Int) : Rd sp 16 506 (paS s n0 n1 6 sec n len 0 (tenB c)) =
  (bif decide ((0 : Int) < len) then
     bif decide ((0 : Int) ≤ (0 : Int) ∧ (0 : Int) < (s.length : Int)) then
       bif noDig s 0 then some (.ret, paS s 0 40 6 sec n len 0 (tenB c))
       else some (.normal, paS s n0 n1 6 (more sec s 0) n len (IntKind.i64.wrap ((0 : Int) + 1)) (tenB c))
     else none
   else some (.exit 0, paS s n0 n1 6 sec n len 0 (tenB c))) := by kernel_rfl
theorem pr_6_1 (s : List UInt8) (n0 n1 sec n len : Int) (c : Nat → Int) : Rd sp 16 506 (paS s n0 n1 6 sec n len 1 (tenB c)) =
  (bif decide ((1 : Int) < len) then
     bif decide ((0 : Int) ≤ (1 : Int) ∧ (1 : Int) < (s.length : Int)) then
       bif noDig s 1 then some (.ret, paS s 0 40 6 sec n len 1 (tenB c))
       else some (.normal, paS s n0 n1 6 (more sec s 1) n len (IntKind.i64.wrap ((1 : Int) + 1)) (tenB c))
     else none
   else some (.exit 0, paS s n0 n1 6 sec n len 1 (tenB c))) := by kernel_rfl
theorem pr_6_2 (s : List UInt8) (n0 n1 sec n len : Int) (c : Nat → Int) : Rd sp 16 506 (paS s n0 n1 6 sec n len 2 (tenB c)) =
  (bif decide ((2 : Int) < len) then
     bif decide ((0 : Int) ≤ (2 : Int) ∧ (2 : Int) < (s.length : Int)) then
       bif noDig s 2 then some (.ret, paS s 0 40 6 sec n len 2 (tenB c))
       else some (.normal, paS s n0 n1 6 (more sec s 2) n len (IntKind.i64.wrap ((2 : Int) + 1)) (tenB c))
     else none
   else some (.exit 0, paS s n0 n1 6 sec n len 2 (tenB c))) := by kernel_rfl
theorem pr_6_3 (s : List UInt8) (n0 n1 sec n len : Int) (c : Nat → Int) : Rd sp 16 506 (paS s n0 n1 6 sec n len 3 (tenB c)) =
  (bif decide ((3 : Int) < len) then
     bif decide ((0 : Int) ≤ (3 : Int) ∧ (3 : Int) < (s.length : Int)) then
       bif noDig s 3 then some (.ret, paS s 0 40 6 sec n len 3 (tenB c))
       else some (.normal, paS s n0 n1 6 (more sec s 3) n len (IntKind.i64.wrap ((3 : Int) + 1)) (tenB c))
     else none
   else some (.exit 0, paS s n0 n1 6 sec n len 3 (tenB c))) := by kernel_rfl
theorem pr_6_4 (s : List UInt8) (n0 n1 sec n len : Int) (c : Nat → Int) : Rd sp 16 506 (paS s n0 n1 6 sec n len 4 (tenB c)) =
  (bif decide ((4 : Int) < len) then
     bif decide ((0 : Int) ≤ (4 : Int) ∧ (4 : Int) < (s.length : Int)) then
       bif noDig s 4 then some (.ret, paS s 0 40 6 sec n len 4 (tenB c))
       else some (.normal, paS s n0 n1 6 (more sec s 4) n len (IntKind.i64.wrap ((4 : Int) + 1)) (tenB c))
     else none
   else some (.exit 0, paS s n0 n1 6 sec n len 4 (tenB c))) := by kernel_rfl
theorem pr_6_5 (s : List UInt8) (n0 n1 sec n len : Int) (c : Nat → Int) : Rd sp 16 506 (paS s n0 n1 6 sec n len 5 (tenB c)) =
  (bif decide ((5 : Int) < len) then
     bif decide ((0 : Int) ≤ (5 : Int) ∧ (5 : Int) < (s.length : Int)) then
       bif noDig s 5 then some (.ret, paS s 0 40 6 sec n len 5 (tenB c))
       else some (.normal, paS s n0 n1 6 (more sec s 5) n len (IntKind.i64.wrap ((5 : Int) + 1)) (tenB c))
     else none
   else some (.exit 0, paS s n0 n1 6 sec n len 5 (tenB c))) := by kernel_rfl
theorem pr_6_6 (s : List UInt8) (n0 n1 sec n len : Int) (c : Nat → Int) : Rd sp 16 506 (paS s n0 n1 6 sec n len 6 (tenB c)) =
  (bif decide ((6 : Int) < len) then
     bif decide ((0 : Int) ≤ (6 : Int) ∧ (6 : Int) < (s.length : Int)) then
       some (.normal, paS s n0 n1 6 sec n len (IntKind.i64.wrap ((6 : Int) + 1)) (tenB c))
     else none
   else some (.exit 0, paS s n0 n1 6 sec n len 6 (tenB c))) := by kernel_rfl
theorem pr_6_7 (s : List UInt8) (n0 n1 sec n len : Int) (c : Nat → Int) : Rd sp 16 506 (paS s n0 n1 6 sec n len 7 (tenB c)) =
  (bif decide ((7 : Int) < len) then
     bif decide ((0 : Int) ≤ (7 : Int) ∧ (7 : Int) < (s.length : Int)) then
       bif noDig s 7 then some (.ret, paS s 0 40 6 sec n len 7 (tenB c))
       else some (.normal, paS s n0 n1 6 sec (more n s 7) len (IntKind.i64.wrap ((7 : Int) + 1)) (tenB fun k => bif Nat.beq k 0 then chr s 7 else c k))
     else none
   else some (.exit 0, paS s n0 n1 6 sec n len 7 (tenB c))) := by kernel_rfl
theorem pr_6_8 (s : List UInt8) (n0 n1 sec n len : Int) (c : Nat → Int) : Rd sp 16 506 (paS s n0 n1 6 sec n len 8 (tenB c)) =
  (bif decide ((8 : Int) < len) then
     bif decide ((0 : Int) ≤ (8 : Int) ∧ (8 : Int) < (s.length : Int)) then
       bif noDig s 8 then some (.ret, paS s 0 40 6 sec n len 8 (tenB c))
       else some (.normal, paS s n0 n1 6 sec (more n s 8) len (IntKind.i64.wrap ((8 : Int) + 1)) (tenB fun k => bif Nat.beq k 1 then chr s 8 else c k))
     else none
   else some (.exit 0, paS s n0 n1 6 sec n len 8 (tenB c))) := by kernel_rfl
theorem pr_6_9 (s : List UInt8) (n0 n1 sec n len : Int) (c : Nat → Int) : Rd sp 16 506 (paS s n0 n1 6 sec n len 9 (tenB c)) =
  (bif decide ((9 : Int) < len) then
     bif decide ((0 : Int) ≤ (9 : Int) ∧ (9 : Int) < (s.length : Int)) then
       bif noDig s 9 then some (.ret, paS s 0 40 6 sec n len 9 (tenB c))
       else some (.normal, paS s n0 n1 6 sec (more n s 9) len (IntKind.i64.wrap ((9 : Int) + 1)) (tenB fun k => bif Nat.beq k 2 then chr s 9 else c k))
     else none
   else some (.exit 0, paS s n0 n1 6 sec n len 9 (tenB c))) := by kernel_rfl
theorem pr_6_10 (s : List UInt8) (n0 n1 sec n len : Int) (c : Nat → Int) : Rd sp 16 506 (paS s n0 n1 6 sec n len 10 (tenB c)) =
  (bif decide ((10 : Int) < len) then
     bif decide ((0 : Int) ≤ (10 : Int) ∧ (10 : Int) < (s.length : Int)) then
       bif noDig s 10 then some (.ret, paS s 0 40 6 sec n len 10 (tenB c))
       else some (.normal, paS s n0 n1 6 sec (more n s 10) len (IntKind.i64.wrap ((10 : Int) + 1)) (tenB fun k => bif Nat.beq k 3 then chr s 10 else c k))
     else none
   else some (.exit 0, paS s n0 n1 6 sec n len 10 (tenB c))) := by kernel_rfl
theorem pr_6_11 (s : List UInt8) (n0 n1 sec n len : Int) (c : Nat → Int) : Rd sp 16 506 (paS s n0 n1 6 sec n len 11 (tenB c)) =
  (bif decide ((11 : Int) < len) then
     bif decide ((0 : Int) ≤ (11 : Int) ∧ (11 : Int) < (s.length : Int)) then
       bif noDig s 11 then some (.ret, paS s 0 40 6 sec n len 11 (tenB c))
       else some (.normal, paS s n0 n1 6 sec (more n s 11) len (IntKind.i64.wrap ((11 : Int) + 1)) (tenB fun k => bif Nat.beq k 4 then chr s 11 else c k))
     else none
   else some (.exit 0, paS s n0 n1 6 sec n len 11 (tenB c))) := by kernel_rfl
theorem pr_6_12 (s : List UInt8) (n0 n1 sec n len : Int) (c : Nat → Int) : Rd sp 16 506 (paS s n0 n1 6 sec n len 12 (tenB c)) =
  (bif decide ((12 : Int) < len) then
     bif decide ((0 : Int) ≤ (12 : Int) ∧ (12 : Int) < (s.length : Int)) then
       bif noDig s 12 then some (.ret, paS s 0 40 6 sec n len 12 (tenB c))
       else some (.normal, paS s n0 n1 6 sec (more n s 12) len (IntKind.i64.wrap ((12 : Int) + 1)) (tenB fun k => bif Nat.beq k 5 then chr s 12 else c k))
     else none
   else some (.exit 0, paS s n0 n1 6 sec n len 12 (tenB c))) := by kernel_rfl
theorem pr_6_13 (s : List UInt8) (n0 n1 sec n len : Int) (c : Nat → Int) : Rd sp 16 506 (paS s n0 n1 6 sec n len 13 (tenB c)) =
  (bif decide ((13 : Int) < len) then
     bif decide ((0 : Int) ≤ (13 : Int) ∧ (13 : Int) < (s.length : Int)) then
       bif noDig s 13 then some (.ret, paS s 0 40 6 sec n len 13 (tenB c))
       else some (.normal, paS s n0 n1 6 sec (more n s 13) len (IntKind.i64.wrap ((13 : Int) + 1)) (tenB fun k => bif Nat.beq k 6 then chr s 13 else c k))
     else none
   else some (.exit 0, paS s n0 n1 6 sec n len 13 (tenB c))) := by kernel_rfl
theorem pr_6_14 (s : List UInt8) (n0 n1 sec n len : Int) (c : Nat → Int) : Rd sp 16 506 (paS s n0 n1 6 sec n len 14 (tenB c)) =
  (bif decide ((14 : Int) < len) then
     bif decide ((0 : Int) ≤ (14 : Int) ∧ (14 : Int) < (s.length : Int)) then
       bif noDig s 14 then some (.ret, paS s 0 40 6 sec n len 14 (tenB c))
       else some (.normal, paS s n0 n1 6 sec (more n s 14) len (IntKind.i64.wrap ((14 : Int) + 1)) (tenB fun k => bif Nat.beq k 7 then chr s 14 else c k))
     else none
   else some (.exit 0, paS s n0 n1 6 sec n len 14 (tenB c))) := by kernel_rfl
theorem pr_6_15 (s : List UInt8) (n0 n1 sec n len : Int) (c : Nat → Int) : Rd sp 16 506 (paS s n0 n1 6 sec n len 15 (tenB c)) =
  (bif decide ((15 : Int) < len) then
     bif decide ((0 : Int) ≤ (15 : Int) ∧ (15 : Int) < (s.length : Int)) then
       bif noDig s 15 then some (.ret, paS s 0 40 6 sec n len 15 (tenB c))
       else some (.normal, paS s n0 n1 6 sec (more n s 15) len (IntKind.i64.wrap ((15 : Int) + 1)) (tenB fun k => bif Nat.beq k 8 then chr s 15 else c k))
     else none
   else some (.exit 0, paS s n0 n1 6 sec n len 15 (tenB c))) := by kernel_rfl
theorem pr_6_16 (s : List UInt8) (n0 n1 sec n len : Int) (c : Nat → Int) : Rd sp 16 506 (paS s n0 n1 6 sec n len 16 (tenB c)) =
  (bif decide ((16 : Int) < len) then
     bif decide ((0 : Int) ≤ (16 : Int) ∧ (16 : Int) < (s.length : Int)) then
       bif noDig s 16 then some (.ret, paS s 0 40 6 sec n len 16 (tenB c))
       else some (.normal, paS s n0 n1 6 sec (more n s 16) len (IntKind.i64.wrap ((16 : Int) + 1)) (tenB fun k => bif Nat.beq k 9 then chr s 16 else c k))
     else none
   else some (.exit 0, paS s n0 n1 6 sec n len 16 (tenB c))) := by kernel_rfl
theorem pr_7_0 (s : List UInt8) (n0 n1 sec n len : Int) (c : Nat → Int) : Rd sp 16 506 (paS s n0 n1 7 sec n len 0 (tenB c)) =
  (bif decide ((0 : Int) < len) then
     bif decide ((0 : Int) ≤ (0 : Int) ∧ (0 : Int) < (s.length : Int)) then
       bif noDig s 0 then some (.ret, paS s 0 40 7 sec n len 0 (tenB c))
       else some (.normal, paS s n0 n1 7 (more sec s 0) n len (IntKind.i64.wrap ((0 : Int) + 1)) (tenB c))
     else none
   else some (.exit 0, paS s n0 n1 7 sec n len 0 (tenB c))) := by kernel_rfl
theorem pr_7_1 (s : List UInt8) (n0 n1 sec n len : Int) (c : Nat → Int) : Rd sp 16 506 (paS s n0 n1 7 sec n len 1 (tenB c)) =
  (bif decide ((1 : Int) < len) then
     bif decide ((0 : Int) ≤ (1 : Int) ∧ (1 : Int) < (s.length : Int)) then
       bif noDig s 1 then some (.ret, paS s 0 40 7 sec n len 1 (tenB c))
       else some (.normal, paS s n0 n1 7 (more sec s 1) n len (IntKind.i64.wrap ((1 : Int) + 1)) (tenB c))
     else none
   else some (.exit 0, paS s n0 n1 7 sec n len 1 (tenB c))) := by kernel_rfl
theorem pr_7_2 (s : List UInt8) (n0 n1 sec n len : Int) (c : Nat → Int) : Rd sp 16 506 (paS s n0 n1 7 sec n len 2 (tenB c)) =
  (bif decide ((2 : Int) < len) then
     bif decide ((0 : Int) ≤ (2 : Int) ∧ (2 : Int) < (s.length : Int)) then
       bif noDig s 2 then some (.ret, paS s 0 40 7 sec n len 2 (tenB c))
       else some (.normal, paS s n0 n1 7 (more sec s 2) n len (IntKind.i64.wrap ((2 : Int) + 1)) (tenB c))
     else none
   else some (.exit 0, paS s n0 n1 7 sec n len 2 (tenB c))) := by kernel_rfl
theorem pr_7_3 (s : List UInt8) (n0 n1 sec n len : Int) (c : Nat → Int) : Rd sp 16 506 (paS s n0 n1 7 sec n len 3 (tenB c)) =
  (bif decide ((3 : Int) < len) then
     bif decide ((0 : Int) ≤ (3 : Int) ∧ (3 : Int) < (s.length : Int)) then
       bif noDig s 3 then some (.ret, paS s 0 40 7 sec n len 3 (tenB c))
       else some (.normal, paS s n0 n1 7 (more sec s 3) n len (IntKind.i64.wrap ((3 : Int) + 1)) (tenB c))
     else none
   else some (.exit 0, paS s n0 n1 7 sec n len 3 (tenB c))) := by kernel_rfl
theorem pr_7_4 (s : List UInt8) (n0 n1 sec n len : Int) (c : Nat → Int) : Rd sp 16 506 (paS s n0 n1 7 sec n len 4 (tenB c)) =
  (bif decide ((4 : Int) < len) then
     bif decide ((0 : Int) ≤ (4 : Int) ∧ (4 : Int) < (s.length : Int)) then
       bif noDig s 4 then some (.ret, paS s 0 40 7 sec n len 4 (tenB c))
       else some (.normal, paS s n0 n1 7 (more sec s 4) n len (IntKind.i64.wrap ((4 : Int) + 1)) (tenB c))
     else none
   else some (.exit 0, paS s n0 n1 7 sec n len 4 (tenB c))) := by kernel_rfl
theorem pr_7_5 (s : List UInt8) (n0 n1 sec n len : Int) (c : Nat → Int) : Rd sp 16 506 (paS s n0 n1 7 sec n len 5 (tenB c)) =
  (bif decide ((5 : Int) < len) then
     bif decide ((0 : Int) ≤ (5 : Int) ∧ (5 : Int) < (s.length : Int)) then
       bif noDig s 5 then some (.ret, paS s 0 40 7 sec n len 5 (tenB c))
       else some (.normal, paS s n0 n1 7 (more sec s 5) n len (IntKind.i64.wrap ((5 : Int) + 1)) (tenB c))
     else none
   else some (.exit 0, paS s n0 n1 7 sec n len 5 (tenB c))) := by kernel_rfl
theorem pr_7_6 (s : List UInt8) (n0 n1 sec n len : Int) (c : Nat → Int) : Rd sp 16 506 (paS s n0 n1 7 sec n len 6 (tenB c)) =
  (bif decide ((6 : Int) < len) then
     bif decide ((0 : Int) ≤ (6 : Int) ∧ (6 : Int) < (s.length : Int)) then
       bif noDig s 6 then some (.ret, paS s 0 40 7 sec n len 6 (tenB c))
       else some (.normal, paS s n0 n1 7 (more sec s 6) n len (IntKind.i64.wrap ((6 : Int) + 1)) (tenB c))
     else none
   else some (.exit 0, paS s n0 n1 7 sec n len 6 (tenB c))) := by kernel_rfl
theorem pr_7_7 (s : List UInt8) (n0 n1 sec n len : Int) (c : Nat → Int) : Rd sp 16 506 (paS s n0 n1 7 sec n len 7 (tenB c)) =
  (bif decide ((7 : Int) < len) then
     bif decide ((0 : Int) ≤ (7 : Int) ∧ (7 : Int) < (s.length : Int)) then
       some (.normal, paS s n0 n1 7 sec n len (IntKind.i64.wrap ((7 : Int) + 1)) (tenB c))
     else none
   else some (.exit 0, paS s n0 n1 7 sec n len 7 (tenB c))) := by kernel_rfl
theorem pr_7_8 (s : List UInt8) (n0 n1 sec n len : Int) (c : Nat → Int) : Rd sp 16 506 (paS s n0 n1 7 sec n len 8 (tenB c)) =
  (bif decide ((8 : Int) < len) then
     bif decide ((0 : Int) ≤ (8 : Int) ∧ (8 : Int) < (s.length : Int)) then
       bif noDig s 8 then some (.ret, paS s 0 40 7 sec n len 8 (tenB c))
       else some (.normal, paS s n0 n1 7 sec (more n s 8) len (IntKind.i64.wrap ((8 : Int) + 1)) (tenB fun k => bif Nat.beq k 0 then chr s 8 else c k))
     else none
   else some (.exit 0, paS s n0 n1 7 sec n len 8 (tenB c))) := by kernel_rfl
theorem pr_7_9 (s : List UInt8) (n0 n1 sec n len : Int) (c : Nat → Int) : Rd sp 16 506 (paS s n0 n1 7 sec n len 9 (tenB c)) =
  (bif decide ((9 : Int) < len) then
     bif decide ((0 : Int) ≤ (9 : Int) ∧ (9 : Int) < (s.length : Int)) then
       bif noDig s 9 then some (.ret, paS s 0 40 7 sec n len 9 (tenB c))
       else some (.normal, paS s n0 n1 7 sec (more n s 9) len (IntKind.i64.wrap ((9 : Int) + 1)) (tenB fun k => bif Nat.beq k 1 then chr s 9 else c k))
     else none
   else some (.exit 0, paS s n0 n1 7 sec n len 9 (tenB c))) := by kernel_rfl
theorem pr_7_10 (s : List UInt8) (n0 n1 sec n len : Int) (c : Nat → Int) : Rd sp 16 506 (paS s n0 n1 7 sec n len 10 (tenB c)) =
  (bif decide ((10 : Int) < len) then
     bif decide ((0 : Int) ≤ (10 : Int) ∧ (10 : Int) < (s.length : Int)) then
       bif noDig s 10 then some (.ret, paS s 0 40 7 sec n len 10 (tenB c))
       else some (.normal, paS s n0 n1 7 sec (more n s 10) len (IntKind.i64.wrap ((10 : Int) + 1)) (tenB fun k => bif Nat.beq k 2 then chr s 10 else c k))
     else none
   else some (.exit 0, paS s n0 n1 7 sec n len 10 (tenB c))) := by kernel_rfl
theorem pr_7_11 (s : List UInt8) (n0 n1 sec n len : Int) (c : Nat → Int) : Rd sp 16 506 (paS s n0 n1 7 sec n len 11 (tenB c)) =
  (bif decide ((11 : Int) < len) then
     bif decide ((0 : Int) ≤ (11 : Int) ∧ (11 : Int) < (s.length : Int)) then
       bif noDig s 11 then some (.ret, paS s 0 40 7 sec n len 11 (tenB c))
       else some (.normal, paS s n0 n1 7 sec (more n s 11) len (IntKind.i64.wrap ((11 : Int) + 1)) (tenB fun k => bif Nat.beq k 3 then chr s 11 else c k))
     else none
   else some (.exit 0, paS s n0 n1 7 sec n len 11 (tenB c))) := by kernel_rfl
theorem pr_7_12 (s : List UInt8) (n0 n1 sec n len : Int) (c : Nat → Int) : Rd sp 16 506 (paS s n0 n1 7 sec n len 12 (tenB c)) =
  (bif decide ((12 : Int) < len) then
     bif decide ((0 : Int) ≤ (12 : Int) ∧ (12 : Int) < (s.length : Int)) then
       bif noDig s 12 then some (.ret, paS s 0 40 7 sec n len 12 (tenB c))
       else some (.normal, paS s n0 n1 7 sec (more n s 12) len (IntKind.i64.wrap ((12 : Int) + 1)) (tenB fun k => bif Nat.beq k 4 then chr s 12 else c k))
     else none
   else some (.exit 0, paS s n0 n1 7 sec n len 12 (tenB c))) := by kernel_rfl
theorem pr_7_13 (s : List UInt8) (n0 n1 sec n len : Int) (c : Nat → Int) : Rd sp 16 506 (paS s n0 n1 7 sec n len 13 (tenB c)) =
  (bif decide ((13 : Int) < len) then
     bif decide ((0 : Int) ≤ (13 : Int) ∧ (13 : Int) < (s.length : Int)) then
       bif noDig s 13 then some (.ret, paS s 0 40 7 sec n len 13 (tenB c))
       else some (.normal, paS s n0 n1 7 sec (more n s 13) len (IntKind.i64.wrap ((13 : Int) + 1)) (tenB fun k => bif Nat.beq k 5 then chr s 13 else c k))
     else none
   else some (.exit 0, paS s n0 n1 7 sec n len 13 (tenB c))) := by kernel_rfl
theorem pr_7_14 (s : List UInt8) (n0 n1 sec n len : Int) (c : Nat → Int) : Rd sp 16 506 (paS s n0 n1 7 sec n len 14 (tenB c)) =
  (bif decide ((14 : Int) < len) then
     bif decide ((0 : Int) ≤ (14 : Int) ∧ (14 : Int) < (s.length : Int)) then
       bif noDig s 14 then some (.ret, paS s 0 40 7 sec n len 14 (tenB c))
       else some (.normal, paS s n0 n1 7 sec (more n s 14) len (IntKind.i64.wrap ((14 : Int) + 1)) (tenB fun k => bif Nat.beq k 6 then chr s 14 else c k))
     else none
   else some (.exit 0, paS s n0 n1 7 sec n len 14 (tenB c))) := by kernel_rfl
theorem pr_7_15 (s : List UInt8) (n0 n1 sec n len : Int) (c : Nat → Int) : Rd sp 16 506 (paS s n0 n1 7 sec n len 15 (tenB c)) =
  (bif decide ((15 : Int) < len) then
     bif decide ((0 : Int) ≤ (15 : Int) ∧ (15 : Int) < (s.length : Int)) then
       bif noDig s 15 then some (.ret, paS s 0 40 7 sec n len 15 (tenB c))
       else some (.normal, paS s n0 n1 7 sec (more n s 15) len (IntKind.i64.wrap ((15 : Int) + 1)) (tenB fun k => bif Nat.beq k 7 then chr s 15 else c k))
     else none
   else some (.exit 0, paS s n0 n1 7 sec n len 15 (tenB c))) := by kernel_rfl
theorem pr_7_16 (s : List UInt8) (n0 n1 sec n len : Int) (c : Nat → Int) : Rd sp 16 506 (paS s n0 n1 7 sec n len 16 (tenB c)) =
  (bif decide ((16 : Int) < len) then
     bif decide ((0 : Int) ≤ (16 : Int) ∧ (16 : Int) < (s.length : Int)) then
       bif noDig s 16 then some (.ret, paS s 0 40 7 sec n len 16 (tenB c))
       else some (.normal, paS s n0 n1 7 sec (more n s 16) len (IntKind.i64.wrap ((16 : Int) + 1)) (tenB fun k => bif Nat.beq k 8 then chr s 16 else c k))
     else none
   else some (.exit 0, paS s n0 n1 7 sec n len 16 (tenB c))) := by kernel_rfl
theorem pr_7_17 (s : List UInt8) (n0 n1 sec n len : Int) (c : Nat → Int) : Rd sp 16 506 (paS s n0 n1 7 sec n len 17 (tenB c)) =
  (bif decide ((17 : Int) < len) then
     bif decide ((0 : Int) ≤ (17 : Int) ∧ (17 : Int) < (s.length : Int)) then
       bif noDig s 17 then some (.ret, paS s 0 40 7 sec n len 17 (tenB c))
       else some (.normal, paS s n0 n1 7 sec (more n s 17) len (IntKind.i64.wrap ((17 : Int) + 1)) (tenB fun k => bif Nat.beq k 9 then chr s 17 else c k))
     else none
   else some (.exit 0, paS s n0 n1 7 sec n len 17 (tenB c))) := by kernel_rfl
theorem pr_8_0 (s : List UInt8) (n0 n1 sec n len : Int) (c : Nat → Int) : Rd sp 16 506 (paS s n0 n1 8 sec n len 0 (tenB c)) =
  (bif decide ((0 : Int) < len) then
     bif decide ((0 : Int) ≤ (0 : Int) ∧ (0 : Int) < (s.length : Int)) then
       bif noDig s 0 then some (.ret, paS s 0 40 8 sec n len 0 (tenB c))
       else some (.normal, paS s n0 n1 8 (more sec s 0) n len (IntKind.i64.wrap ((0 : Int) + 1)) (tenB c))
     else none
   else some (.exit 0, paS s n0 n1 8 sec n len 0 (tenB c))) := by kernel_rfl
theorem pr_8_1 (s : List UInt8) (n0 n1 sec n len : Int) (c : Nat → Int) : Rd sp 16 506 (paS s n0 n1 8 sec n len 1 (tenB c)) =
  (bif decide ((1 : Int) < len) then
     bif decide ((0 : Int) ≤ (1 : Int) ∧ (1 : Int) < (s.length : Int)) then
       bif noDig s 1 then some (.ret, paS s 0 40 8 sec n len 1 (tenB c))
       else some (.normal, paS s n0 n1 8 (more sec s 1) n len (IntKind.i64.wrap ((1 : Int) + 1)) (tenB c))
     else none
   else some (.exit 0, paS s n0 n1 8 sec n len 1 (tenB c))) := by kernel_rfl
theorem pr_8_2 (s : List UInt8) (n0 n1 sec n len : Int) (c : Nat → Int) : Rd sp 16 506 (paS s n0 n1 8 sec n len 2 (tenB c)) =
  (bif decide ((2 : Int) < len) then
     bif decide ((0 : Int) ≤ (2 : Int) ∧ (2 : Int) < (s.length : Int)) then
       bif noDig s 2 then some (.ret, paS s 0 40 8 sec n len 2 (tenB c))
       else some (.normal, paS s n0 n1 8 (more sec s 2) n len (IntKind.i64.wrap ((2 : Int) + 1)) (tenB c))
     else none
   else some (.exit 0, paS s n0 n1 8 sec n len 2 (tenB c))) := by kernel_rfl
theorem pr_8_3 (s : List UInt8) (n0 n1 sec n len : Int) (c : Nat → Int) : Rd sp 16 506 (paS s n0 n1 8 sec n len 3 (tenB c)) =
  (bif decide ((3 : Int) < len) then
     bif decide ((0 : Int) ≤ (3 : Int) ∧ (3 : Int) < (s.length : Int)) then
       bif noDig s 3 then some (.ret, paS s 0 40 8 sec n len 3 (tenB c))
       else some (.normal, paS s n0 n1 8 (more sec s 3) n len (IntKind.i64.wrap ((3 : Int) + 1)) (tenB c))
     else none
   else some (.exit 0, paS s n0 n1 8 sec n len 3 (tenB c))) := by kernel_rfl
theorem pr_8_4 (s : List UInt8) (n0 n1 sec n len : Int) (c : Nat → Int) : Rd sp 16 506 (paS s n0 n1 8 sec n len 4 (tenB c)) =
  (bif decide ((4 : Int) < len) then
     bif decide ((0 : Int) ≤ (4 : Int) ∧ (4 : Int) < (s.length : Int)) then
       bif noDig s 4 then some (.ret, paS s 0 40 8 sec n len 4 (tenB c))
       else some (.normal, paS s n0 n1 8 (more sec s 4) n len (IntKind.i64.wrap ((4 : Int) + 1)) (tenB c))
     else none
   else some (.exit 0, paS s n0 n1 8 sec n len 4 (tenB c))) := by kernel_rfl
theorem pr_8_5 (s : List UInt8) (n0 n1 sec n len : Int) (c : Nat → Int) : Rd sp 16 506 (paS s n0 n1 8 sec n len 5 (tenB c)) =
  (bif decide ((5 : Int) < len) then
     bif decide ((0 : Int) ≤ (5 : Int) ∧ (5 : Int) < (s.length : Int)) then
       bif noDig s 5 then some (.ret, paS s 0 40 8 sec n len 5 (tenB c))
       else some (.normal, paS s n0 n1 8 (more sec s 5) n len (IntKind.i64.wrap ((5 : Int) + 1)) (tenB c))
     else none
   else some (.exit 0, paS s n0 n1 8 sec n len 5 (tenB c))) := by kernel_rfl
theorem pr_8_6 (s : List UInt8) (n0 n1 sec n len : Int) (c : Nat → Int) : Rd sp 16 506 (paS s n0 n1 8 sec n len 6 (tenB c)) =
  (bif decide ((6 : Int) < len) then
     bif decide ((0 : Int) ≤ (6 : Int) ∧ (6 : Int) < (s.length : Int)) then
       bif noDig s 6 then some (.ret, paS s 0 40 8 sec n len 6 (tenB c))
       else some (.normal, paS s n0 n1 8 (more sec s 6) n len (IntKind.i64.wrap ((6 : Int) + 1)) (tenB c))
     else none
   else some (.exit 0, paS s n0 n1 8 sec n len 6 (tenB c))) := by kernel_rfl
theorem pr_8_7 (s : List UInt8) (n0 n1 sec n len : Int) (c : Nat → Int) : Rd sp 16 506 (paS s n0 n1 8 sec n len 7 (tenB c)) =
  (bif decide ((7 : Int) < len) then
     bif decide ((0 : Int) ≤ (7 : Int) ∧ (7 : Int) < (s.length : Int)) then
       bif noDig s 7 then some (.ret, paS s 0 40 8 sec n len 7 (tenB c))
       else some (.normal, paS s n0 n1 8 (more sec s 7) n len (IntKind.i64.wrap ((7 : Int) + 1)) (tenB c))
     else none
   else some (.exit 0, paS s n0 n1 8 sec n len 7 (tenB c))) := by kernel_rfl
theorem pr_8_8 (s : List UInt8) (n0 n1 sec n len : Int) (c : Nat → Int) : Rd sp 16 506 (paS s n0 n1 8 sec n len 8 (tenB c)) =
  (bif decide ((8 : Int) < len) then
     bif decide ((0 : Int) ≤ (8 : Int) ∧ (8 : Int) < (s.length : Int)) then
       some (.normal, paS s n0 n1 8 sec n len (IntKind.i64.wrap ((8 : Int) + 1)) (tenB c))
     else none
   else some (.exit 0, paS s n0 n1 8 sec n len 8 (tenB c))) := by kernel_rfl
theorem pr_8_9 (s : List UInt8) (n0 n1 sec n len : Int) (c : Nat → Int) : Rd sp 16 506 (paS s n0 n1 8 sec n len 9 (tenB c)) =
  (bif decide ((9 : Int) < len) then
     bif decide ((0 : Int) ≤ (9 : Int) ∧ (9 : Int) < (s.length : Int)) then
       bif noDig s 9 then some (.ret, paS s 0 40 8 sec n len 9 (tenB c))
       else some (.normal, paS s n0 n1 8 sec (more n s 9) len (IntKind.i64.wrap ((9 : Int) + 1)) (tenB fun k => bif Nat.beq k 0 then chr s 9 else c k))
     else none
   else some (.exit 0, paS s n0 n1 8 sec n len 9 (tenB c))) := by kernel_rfl
theorem pr_8_10 (s : List UInt8) (n0 n1 sec n len : Int) (c : Nat → Int) : Rd sp 16 506 (paS s n0 n1 8 sec n len 10 (tenB c)) =
  (bif decide ((10 : Int) < len) then
     bif decide ((0 : Int) ≤ (10 : Int) ∧ (10 : Int) < (s.length : Int)) then
       bif noDig s 10 then some (.ret, paS s 0 40 8 sec n len 10 (tenB c))
       else some (.normal, paS s n0 n1 8 sec (more n s 10) len (IntKind.i64.wrap ((10 : Int) + 1)) (tenB fun k => bif Nat.beq k 1 then chr s 10 else c k))
     else none
   else some (.exit 0, paS s n0 n1 8 sec n len 10 (tenB c))) := by kernel_rfl
theorem pr_8_11 (s : List UInt8) (n0 n1 sec n len : Int) (c : Nat → Int) : Rd sp 16 506 (paS s n0 n1 8 sec n len 11 (tenB c)) =
  (bif decide ((11 : Int) < len) then
     bif decide ((0 : Int) ≤ (11 : Int) ∧ (11 : Int) < (s.length : Int)) then
       bif noDig s 11 then some (.ret, paS s 0 40 8 sec n len 11 (tenB c))
       else some (.normal, paS s n0 n1 8 sec (more n s 11) len (IntKind.i64.wrap ((11 : Int) + 1)) (tenB fun k => bif Nat.beq k 2 then chr s 11 else c k))
     else none
   else some (.exit 0, paS s n0 n1 8 sec n len 11 (tenB c))) := by kernel_rfl
theorem pr_8_12 (s : List UInt8) (n0 n1 sec n len : Int) (c : Nat → Int) : Rd sp 16 506 (paS s n0 n1 8 sec n len 12 (tenB c)) =
  (bif decide ((12 : Int) < len) then
     bif decide ((0 : Int) ≤ (12 : Int) ∧ (12 : Int) < (s.length : Int)) then
       bif noDig s 12 then some (.ret, paS s 0 40 8 sec n len 12 (tenB c))
       else some (.normal, paS s n0 n1 8 sec (more n s 12) len (IntKind.i64.wrap ((12 : Int) + 1)) (tenB fun k => bif Nat.beq k 3 then chr s 12 else c k))
     else none
   else some (.exit 0, paS s n0 n1 8 sec n len 12 (tenB c))) := by kernel_rfl
theorem pr_8_13 (s : List UInt8) (n0 n1 sec n len : Int) (c : Nat → Int) : Rd sp 16 506 (paS s n0 n1 8 sec n len 13 (tenB c)) =
  (bif decide ((13 : Int) < len) then
     bif decide ((0 : Int) ≤ (13 : Int) ∧ (13 : Int) < (s.length : Int)) then
       bif noDig s 13 then some (.ret, paS s 0 40 8 sec n len 13 (tenB c))
       else some (.normal, paS s n0 n1 8 sec (more n s 13) len (IntKind.i64.wrap ((13 : Int) + 1)) (tenB fun k => bif Nat.beq k 4 then chr s 13 else c k))
     else none
   else some (.exit 0, paS s n0 n1 8 sec n len 13 (tenB c))) := by kernel_rfl
theorem pr_8_14 (s : List UInt8) (n0 n1 sec n len : Int) (c : Nat → Int) : Rd sp 16 506 (paS s n0 n1 8 sec n len 14 (tenB c)) =
  (bif decide ((14 : Int) < len) then
     bif decide ((0 : Int) ≤ (14 : Int) ∧ (14 : Int) < (s.length : Int)) then
       bif noDig s 14 then some (.ret, paS s 0 40 8 sec n len 14 (tenB c))
       else some (.normal, paS s n0 n1 8 sec (more n s 14) len (IntKind.i64.wrap ((14 : Int) + 1)) (tenB fun k => bif Nat.beq k 5 then chr s 14 else c k))
     else none
   else some (.exit 0, paS s n0 n1 8 sec n len 14 (tenB c))) := by kernel_rfl
theorem pr_8_15 (s : List UInt8) (n0 n1 sec n len : Int) (c : Nat → Int) : Rd sp 16 506 (paS s n0 n1 8 sec n len 15 (tenB c)) =
  (bif decide ((15 : Int) < len) then
     bif decide ((0 : Int) ≤ (15 : Int) ∧ (15 : Int) < (s.length : Int)) then
       bif noDig s 15 then some (.ret, paS s 0 40 8 sec n len 15 (tenB c))
       else some (.normal, paS s n0 n1 8 sec (more n s 15) len (IntKind.i64.wrap ((15 : Int) + 1)) (tenB fun k => bif Nat.beq k 6 then chr s 15 else c k))
     else none
   else some (.exit 0, paS s n0 n1 8 sec n len 15 (tenB c))) := by kernel_rfl
theorem pr_8_16 (s : List UInt8) (n0 n1 sec n len : Int) (c : Nat → Int) : Rd sp 16 506 (paS s n0 n1 8 sec n len 16 (tenB c)) =
  (bif decide ((16 : Int) < len) then
     bif decide ((0 : Int) ≤ (16 : Int) ∧ (16 : Int) < (s.length : Int)) then
       bif noDig s 16 then some (.ret, paS s 0 40 8 sec n len 16 (tenB c))
       else some (.normal, paS s n0 n1 8 sec (more n s 16) len (IntKind.i64.wrap ((16 : Int) + 1)) (tenB fun k => bif Nat.beq k 7 then chr s 16 else c k))
     else none
   else some (.exit 0, paS s n0 n1 8 sec n len 16 (tenB c))) := by kernel_rfl
theorem pr_8_17 (s : List UInt8) (n0 n1 sec n len : Int) (c : Nat → Int) : Rd sp 16 506 (paS s n0 n1 8 sec n len 17 (tenB c)) =
  (bif decide ((17 : Int) < len) then
     bif decide ((0 : Int) ≤ (17 : Int) ∧ (17 : Int) < (s.length : Int)) then
       bif noDig s 17 then some (.ret, paS s 0 40 8 sec n len 17 (tenB c))
       else some (.normal, paS s n0 n1 8 sec (more n s 17) len (IntKind.i64.wrap ((17 : Int) + 1)) (tenB fun k => bif Nat.beq k 8 then chr s 17 else c k))
     else none
   else some (.exit 0, paS s n0 n1 8 sec n len 17 (tenB c))) := by kernel_rfl
theorem pr_8_18 (s : List UInt8) (n0 n1 sec n len : Int) (c : Nat → Int) : Rd sp 16 506 (paS s n0 n1 8 sec n len 18 (tenB c)) =
  (bif decide ((18 : Int) < len) then
     bif decide ((0 : Int) ≤ (18 : Int) ∧ (18 : Int) < (s.length : Int)) then
       bif noDig s 18 then some (.ret, paS s 0 40 8 sec n len 18 (tenB c))
       else some (.normal, paS s n0 n1 8 sec (more n s 18) len (IntKind.i64.wrap ((18 : Int) + 1)) (tenB fun k => bif Nat.beq k 9 then chr s 18 else c k))
     else none
   else some (.exit 0, paS s n0 n1 8 sec n len 18 (tenB c))) := by kernel_rfl
theorem pr_9_0 (s : List UInt8) (n0 n1 sec n len : Int) (c : Nat → Int) : Rd sp 16 506 (paS s n0 n1 9 sec n len 0 (tenB c)) =
  (bif decide ((0 : Int) < len) then
     bif decide ((0 : Int) ≤ (0 : Int) ∧ (0 : Int) < (s.length : Int)) then
       bif noDig s 0 then some (.ret, paS s 0 40 9 sec n len 0 (tenB c))
       else some (.normal, paS s n0 n1 9 (more sec s 0) n len (IntKind.i64.wrap ((0 : Int) + 1)) (tenB c))
     else none
   else some (.exit 0, paS s n0 n1 9 sec n len 0 (tenB c))) := by kernel_rfl
theorem pr_9_1 (s : List UInt8) (n0 n1 sec n len : Int) (c : Nat → Int) : Rd sp 16 506 (paS s n0 n1 9 sec n len 1 (tenB c)) =
  (bif decide ((1 : Int) < len) then
     bif decide ((0 : Int) ≤ (1 : Int) ∧ (1 : Int) < (s.length : Int)) then
       bif noDig s 1 then some (.ret, paS s 0 40 9 sec n len 1 (tenB c))
       else some (.normal, paS s n0 n1 9 (more sec s 1) n len (IntKind.i64.wrap ((1 : Int) + 1)) (tenB c))
     else none
   else some (.exit 0, paS s n0 n1 9 sec n len 1 (tenB c))) := by kernel_rfl
theorem pr_9_2 (s : List UInt8) (n0 n1 sec n len : Int) (c : Nat → Int) : Rd sp 16 506 (paS s n0 n1 9 sec n len 2 (tenB c)) =
  (bif decide ((2 : Int) < len) then
     bif decide ((0 : Int) ≤ (2 : Int) ∧ (2 : Int) < (s.length : Int)) then
       bif noDig s 2 then some (.ret, paS s 0 40 9 sec n len 2 (tenB c))
       else some (.normal, paS s n0 n1 9 (more sec s 2) n len (IntKind.i64.wrap ((2 : Int) + 1)) (tenB c))
     else none
   else some (.exit 0, paS s n0 n1 9 sec n len 2 (tenB c))) := by kernel_rfl
theorem pr_9_3 (s : List UInt8) (n0 n1 sec n len : Int) (c : Nat → Int) : Rd sp 16 506 (paS s n0 n1 9 sec n len 3 (tenB c)) =
  (bif decide ((3 : Int) < len) then
     bif decide ((0 : Int) ≤ (3 : Int) ∧ (3 : Int) < (s.length : Int)) then
       bif noDig s 3 then some (.ret, paS s 0 40 9 sec n len 3 (tenB c))
       else some (.normal, paS s n0 n1 9 (more sec s 3) n len (IntKind.i64.wrap ((3 : Int) + 1)) (tenB c))
     else none
   else some (.exit 0, paS s n0 n1 9 sec n len 3 (tenB c))) := by kernel_rfl
theorem pr_9_4 (s : List UInt8) (n0 n1 sec n len : Int) (c : Nat → Int) : Rd sp 16 506 (paS s n0 n1 9 sec n len 4 (tenB c)) =
  (bif decide ((4 : Int) < len) then
     bif decide ((0 : Int) ≤ (4 : Int) ∧ (4 : Int) < (s.length : Int)) then
       bif noDig s 4 then some (.ret, paS s 0 40 9 sec n len 4 (tenB c))
       else some (.normal, paS s n0 n1 9 (more sec s 4) n len (IntKind.i64.wrap ((4 : Int) + 1)) (tenB c))
     else none
   else some (.exit 0, paS s n0 n1 9 sec n len 4 (tenB c))) := by kernel_rfl
theorem pr_9_5 (s : List UInt8) (n0 n1 sec n len : Int) (c : Nat → Int) : Rd sp 16 506 (paS s n0 n1 9 sec n len 5 (tenB c)) =
  (bif decide ((5 : Int) < len) then
     bif decide ((0 : Int) ≤ (5 : Int) ∧ (5 : Int) < (s.length : Int)) then
       bif noDig s 5 then some (.ret, paS s 0 40 9 sec n len 5 (tenB c))
       else some (.normal, paS s n0 n1 9 (more sec s 5) n len (IntKind.i64.wrap ((5 : Int) + 1)) (tenB c))
     else none
   else some (.exit 0, paS s n0 n1 9 sec n len 5 (tenB c))) := by kernel_rfl
theorem pr_9_6 (s : List UInt8) (n0 n1 sec n len : Int) (c : Nat → Int) : Rd sp 16 506 (paS s n0 n1 9 sec n len 6 (tenB c)) =
  (bif decide ((6 : Int) < len) then
     bif decide ((0 : Int) ≤ (6 : Int) ∧ (6 : Int) < (s.length : Int)) then
       bif noDig s 6 then some (.ret, paS s 0 40 9 sec n len 6 (tenB c))
       else some (.normal, paS s n0 n1 9 (more sec s 6) n len (IntKind.i64.wrap ((6 : Int) + 1)) (tenB c))
     else none
   else some (.exit 0, paS s n0 n1 9 sec n len 6 (tenB c))) := by kernel_rfl
theorem pr_9_7 (s : List UInt8) (n0 n1 sec n len : Int) (c : Nat → Int) : Rd sp 16 506 (paS s n0 n1 9 sec n len 7 (tenB c)) =
  (bif decide ((7 : Int) < len) then
     bif decide ((0 : Int) ≤ (7 : Int) ∧ (7 : Int) < (s.length : Int)) then
       bif noDig s 7 then some (.ret, paS s 0 40 9 sec n len 7 (tenB c))
       else some (.normal, paS s n0 n1 9 (more sec s 7) n len (IntKind.i64.wrap ((7 : Int) + 1)) (tenB c))
     else none
   else some (.exit 0, paS s n0 n1 9 sec n len 7 (tenB c))) := by kernel_rfl
theorem pr_9_8 (s : List UInt8) (n0 n1 sec n len : Int) (c : Nat → Int) : Rd sp 16 506 (paS s n0 n1 9 sec n len 8 (tenB c)) =
  (bif decide ((8 : Int) < len) then
     bif decide ((0 : Int) ≤ (8 : Int) ∧ (8 : Int) < (s.length : Int)) then
       bif noDig s 8 then some (.ret, paS s 0 40 9 sec n len 8 (tenB c))
       else some (.normal, paS s n0 n1 9 (more sec s 8) n len (IntKind.i64.wrap ((8 : Int) + 1)) (tenB c))
     else none
   else some (.exit 0, paS s n0 n1 9 sec n len 8 (tenB c))) := by kernel_rfl
theorem pr_9_9 (s : List UInt8) (n0 n1 sec n len : Int) (c : Nat → Int) : Rd sp 16 506 (paS s n0 n1 9 sec n len 9 (tenB c)) =
  (bif decide ((9 : Int) < len) then
     bif decide ((0 : Int) ≤ (9 : Int) ∧ (9 : Int) < (s.length : Int)) then
       some (.normal, paS s n0 n1 9 sec n len (IntKind.i64.wrap ((9 : Int) + 1)) (tenB c))
     else none
   else some (.exit 0, paS s n0 n1 9 sec n len 9 (tenB c))) := by kernel_rfl
theorem pr_9_10 (s : List UInt8) (n0 n1 sec n len : Int) (c : Nat → Int) : Rd sp 16 506 (paS s n0 n1 9 sec n len 10 (tenB c)) =
  (bif decide ((10 : Int) < len) then
     bif decide ((0 : Int) ≤ (10 : Int) ∧ (10 : Int) < (s.length : Int)) then
       bif noDig s 10 then some (.ret, paS s 0 40 9 sec n len 10 (tenB c))
       else some (.normal, paS s n0 n1 9 sec (more n s 10) len (IntKind.i64.wrap ((10 : Int) + 1)) (tenB fun k => bif Nat.beq k 0 then chr s 10 else c k))
     else none
   else some (.exit 0, paS s n0 n1 9 sec n len 10 (tenB c))) := by kernel_rfl
theorem pr_9_11 (s : List UInt8) (n0 n1 sec n len : Int) (c : Nat → Int) : Rd sp 16 506 (paS s n0 n1 9 sec n len 11 (tenB c)) =
  (bif decide ((11 : Int) < len) then
     bif decide ((0 : Int) ≤ (11 : Int) ∧ (11 : Int) < (s.length : Int)) then
       bif noDig s 11 then some (.ret, paS s 0 40 9 sec n len 11 (tenB c))
       else some (.normal, paS s n0 n1 9 sec (more n s 11) len (IntKind.i64.wrap ((11 : Int) + 1)) (tenB fun k => bif Nat.beq k 1 then chr s 11 else c k))
     else none
   else some (.exit 0, paS s n0 n1 9 sec n len 11 (tenB c))) := by kernel_rfl
theorem pr_9_12 (s : List UInt8) (n0 n1 sec n len : Int) (c : Nat → Int) : Rd sp 16 506 (paS s n0 n1 9 sec n len 12 (tenB c)) =
  (bif decide ((12 : Int) < len) then
     bif decide ((0 : Int) ≤ (12 : Int) ∧ (12 : Int) < (s.length : Int)) then
       bif noDig s 12 then some (.ret, paS s 0 40 9 sec n len 12 (tenB c))
       else some (.normal, paS s n0 n1 9 sec (more n s 12) len (IntKind.i64.wrap ((12 : Int) + 1)) (tenB fun k => bif Nat.beq k 2 then chr s 12 else c k))
     else none
   else some (.exit 0, paS s n0 n1 9 sec n len 12 (tenB c))) := by kernel_rfl
theorem pr_9_13 (s : List UInt8) (n0 n1 sec n len : Int) (c : Nat → Int) : Rd sp 16 506 (paS s n0 n1 9 sec n len 13 (tenB c)) =
  (bif decide ((13 : Int) < len) then
     bif decide ((0 : Int) ≤ (13 : Int) ∧ (13 : Int) < (s.length : Int)) then
       bif noDig s 13 then some (.ret, paS s 0 40 9 sec n len 13 (tenB c))
       else some (.normal, paS s n0 n1 9 sec (more n s 13) len (IntKind.i64.wrap ((13 : Int) + 1)) (tenB fun k => bif Nat.beq k 3 then chr s 13 else c k))
     else none
   else some (.exit 0, paS s n0 n1 9 sec n len 13 (tenB c))) := by kernel_rfl
theorem pr_9_14 (s : List UInt8) (n0 n1 sec n len : Int) (c : Nat → Int) : Rd sp 16 506 (paS s n0 n1 9 sec n len 14 (tenB c)) =
  (bif decide ((14 : Int) < len) then
     bif decide ((0 : Int) ≤ (14 : Int) ∧ (14 : Int) < (s.length : Int)) then
       bif noDig s 14 then some (.ret, paS s 0 40 9 sec n len 14 (tenB c))
       else some (.normal, paS s n0 n1 9 sec (more n s 14) len (IntKind.i64.wrap ((14 : Int) + 1)) (tenB fun k => bif Nat.beq k 4 then chr s 14 else c k))
     else none
   else some (.exit 0, paS s n0 n1 9 sec n len 14 (tenB c))) := by kernel_rfl
theorem pr_9_15 (s : List UInt8) (n0 n1 sec n len : Int) (c : Nat → Int) : Rd sp 16 506 (paS s n0 n1 9 sec n len 15 (tenB c)) =
  (bif decide ((15 : Int) < len) then
     bif decide ((0 : Int) ≤ (15 : Int) ∧ (15 : Int) < (s.length : Int)) then
       bif noDig s 15 then some (.ret, paS s 0 40 9 sec n len 15 (tenB c))
       else some (.normal, paS s n0 n1 9 sec (more n s 15) len (IntKind.i64.wrap ((15 : Int) + 1)) (tenB fun k => bif Nat.beq k 5 then chr s 15 else c k))
     else none
   else some (.exit 0, paS s n0 n1 9 sec n len 15 (tenB c))) := by kernel_rfl
theorem pr_9_16 (s : List UInt8) (n0 n1 sec n len : Int) (c : Nat → Int) : Rd sp 16 506 (paS s n0 n1 9 sec n len 16 (tenB c)) =
  (bif decide ((16 : Int) < len) then
     bif decide ((0 : Int) ≤ (16 : Int) ∧ (16 : Int) < (s.length : Int)) then
       bif noDig s 16 then some (.ret, paS s 0 40 9 sec n len 16 (tenB c))
       else some (.normal, paS s n0 n1 9 sec (more n s 16) len (IntKind.i64.wrap ((16 : Int) + 1)) (tenB fun k => bif Nat.beq k 6 then chr s 16 else c k))
     else none
   else some (.exit 0, paS s n0 n1 9 sec n len 16 (tenB c))) := by kernel_rfl
theorem pr_9_17 (s : List UInt8) (n0 n1 sec n len : Int) (c : Nat → Int) : Rd sp 16 506 (paS s n0 n1 9 sec n len 17 (tenB c)) =
  (bif decide ((17 : Int) < len) then
     bif decide ((0 : Int) ≤ (17 : Int) ∧ (17 : Int) < (s.length : Int)) then
       bif noDig s 17 then some (.ret, paS s 0 40 9 sec n len 17 (tenB c))
       else some (.normal, paS s n0 n1 9 sec (more n s 17) len (IntKind.i64.wrap ((17 : Int) + 1)) (tenB fun k => bif Nat.beq k 7 then chr s 17 else c k))
     else none
   else some (.exit 0, paS s n0 n1 9 sec n len 17 (tenB c))) := by kernel_rfl
theorem pr_9_18 (s : List UInt8) (n0 n1 sec n len : Int) (c : Nat → Int) : Rd sp 16 506 (paS s n0 n1 9 sec n len 18 (tenB c)) =
  (bif decide ((18 : Int) < len) then
     bif decide ((0 : Int) ≤ (18 : Int) ∧ (18 : Int) < (s.length : Int)) then
       bif noDig s 18 then some (.ret, paS s 0 40 9 sec n len 18 (tenB c))
       else some (.normal, paS s n0 n1 9 sec (more n s 18) len (IntKind.i64.wrap ((18 : Int) + 1)) (tenB fun k => bif Nat.beq k 8 then chr s 18 else c k))
     else none
   else some (.exit 0, paS s n0 n1 9 sec n len 18 (tenB c))) := by kernel_rfl
theorem pr_9_19 (s : List UInt8) (n0 n1 sec n len : Int) (c : Nat → Int) : Rd sp 16 506 (paS s n0 n1 9 sec n len 19 (tenB c)) =
  (bif decide ((19 : Int) < len) then
     bif decide ((0 : Int) ≤ (19 : Int) ∧ (19 : Int) < (s.length : Int)) then
       bif noDig s 19 then some (.ret, paS s 0 40 9 sec n len 19 (tenB c))
       else some (.normal, paS s n0 n1 9 sec (more n s 19) len (IntKind.i64.wrap ((19 : Int) + 1)) (tenB fun k => bif Nat.beq k 9 then chr s 19 else c k))
     else none
   else some (.exit 0, paS s n0 n1 9 sec n len 19 (tenB c))) := by kernel_rfl
theorem pr_10_0 (s : List UInt8) (n0 n1 sec n len : Int) (c : Nat → Int) : Rd sp 16 506 (paS s n0 n1 10 sec n len 0 (tenB c)) =
  (bif decide ((0 : Int) < len) then
     bif decide ((0 : Int) ≤ (0 : Int) ∧ (0 : Int) < (s.length : Int)) then
       bif noDig s 0 then some (.ret, paS s 0 40 10 sec n len 0 (tenB c))
       else some (.normal, paS s n0 n1 10 (more sec s 0) n len (IntKind.i64.wrap ((0 : Int) + 1)) (tenB c))
     else none
   else some (.exit 0, paS s n0 n1 10 sec n len 0 (tenB c))) := by kernel_rfl
theorem pr_10_1 (s : List UInt8) (n0 n1 sec n len : Int) (c : Nat → Int) : Rd sp 16 506 (paS s n0 n1 10 sec n len 1 (tenB c)) =
  (bif decide ((1 : Int) < len) then
     bif decide ((0 : Int) ≤ (1 : Int) ∧ (1 : Int) < (s.length : Int)) then
       bif noDig s 1 then some (.ret, paS s 0 40 10 sec n len 1 (tenB c))
       else some (.normal, paS s n0 n1 10 (more sec s 1) n len (IntKind.i64.wrap ((1 : Int) + 1)) (tenB c))
     else none
   else some (.exit 0, paS s n0 n1 10 sec n len 1 (tenB c))) := by kernel_rfl
theorem pr_10_2 (s : List UInt8) (n0 n1 sec n len : Int) (c : Nat → Int) : Rd sp 16 506 (paS s n0 n1 10 sec n len 2 (tenB c)) =
  (bif decide ((2 : Int) < len) then
     bif decide ((0 : Int) ≤ (2 : Int) ∧ (2 : Int) < (s.length : Int)) then
       bif noDig s 2 then some (.ret, paS s 0 40 10 sec n len 2 (tenB c))
       else some (.normal, paS s n0 n1 10 (more sec s 2) n len (IntKind.i64.wrap ((2 : Int) + 1)) (tenB c))
     else none
   else some (.exit 0, paS s n0 n1 10 sec n len 2 (tenB c))) := by kernel_rfl
theorem pr_10_3 (s : List UInt8) (n0 n1 sec n len : Int) (c : Nat → Int) : Rd sp 16 506 (paS s n0 n1 10 sec n len 3 (tenB c)) =
  (bif decide ((3 : Int) < len) then
     bif decide ((0 : Int) ≤ (3 : Int) ∧ (3 : Int) < (s.length : Int)) then
       bif noDig s 3 then some (.ret, paS s 0 40 10 sec n len 3 (tenB c))
       else some (.normal, paS s n0 n1 10 (more sec s 3) n len (IntKind.i64.wrap ((3 : Int) + 1)) (tenB c))
     else none
   else some (.exit 0, paS s n0 n1 10 sec n len 3 (tenB c))) := by kernel_rfl
theorem pr_10_4 (s : List UInt8) (n0 n1 sec n len : Int) (c : Nat → Int) : Rd sp 16 506 (paS s n0 n1 10 sec n len 4 (tenB c)) =
  (bif decide ((4 : Int) < len) then
     bif decide ((0 : Int) ≤ (4 : Int) ∧ (4 : Int) < (s.length : Int)) then
       bif noDig s 4 then some (.ret, paS s 0 40 10 sec n len 4 (tenB c))
       else some (.normal, paS s n0 n1 10 (more sec s 4) n len (IntKind.i64.wrap ((4 : Int) + 1)) (tenB c))
     else none
   else some (.exit 0, paS s n0 n1 10 sec n len 4 (tenB c))) := by kernel_rfl
theorem pr_10_5 (s : List UInt8) (n0 n1 sec n len : Int) (c : Nat → Int) : Rd sp 16 506 (paS s n0 n1 10 sec n len 5 (tenB c)) =
  (bif decide ((5 : Int) < len) then
     bif decide ((0 : Int) ≤ (5 : Int) ∧ (5 : Int) < (s.length : Int)) then
       bif noDig s 5 then some (.ret, paS s 0 40 10 sec n len 5 (tenB c))
       else some (.normal, paS s n0 n1 10 (more sec s 5) n len (IntKind.i64.wrap ((5 : Int) + 1)) (tenB c))
     else none
   else some (.exit 0, paS s n0 n1 10 sec n len 5 (tenB c))) := by kernel_rfl
theorem pr_10_6 (s : List UInt8) (n0 n1 sec n len : Int) (c : Nat → Int) : Rd sp 16 506 (paS s n0 n1 10 sec n len 6 (tenB c)) =
  (bif decide ((6 : Int) < len) then
     bif decide ((0 : Int) ≤ (6 : Int) ∧ (6 : Int) < (s.length : Int)) then
       bif noDig s 6 then some (.ret, paS s 0 40 10 sec n len 6 (tenB c))
       else some (.normal, paS s n0 n1 10 (more sec s 6) n len (IntKind.i64.wrap ((6 : Int) + 1)) (tenB c))
     else none
   else some (.exit 0, paS s n0 n1 10 sec n len 6 (tenB c))) := by kernel_rfl
theorem pr_10_7 (s : List UInt8) (n0 n1 sec n len : Int) (c : Nat → Int) : Rd sp 16 506 (paS s n0 n1 10 sec n len 7 (tenB c)) =
  (bif decide ((7 : Int) < len) then
     bif decide ((0 : Int) ≤ (7 : Int) ∧ (7 : Int) < (s.length : Int)) then
       bif noDig s 7 then some (.ret, paS s 0 40 10 sec n len 7 (tenB c))
       else some (.normal, paS s n0 n1 10 (more sec s 7) n len (IntKind.i64.wrap ((7 : Int) + 1)) (tenB c))
     else none
   else some (.exit 0, paS s n0 n1 10 sec n len 7 (tenB c))) := by kernel_rfl
theorem pr_10_8 (s : List UInt8) (n0 n1 sec n len : Int) (c : Nat → Int) : Rd sp 16 506 (paS s n0 n1 10 sec n len 8 (tenB c)) =
  (bif decide ((8 : Int) < len) then
     bif decide ((0 : Int) ≤ (8 : Int) ∧ (8 : Int) < (s.length : Int)) then
       bif noDig s 8 then some (.ret, paS s 0 40 10 sec n len 8 (tenB c))
       else some (.normal, paS s n0 n1 10 (more sec s 8) n len (IntKind.i64.wrap ((8 : Int) + 1)) (tenB c))
     else none
   else some (.exit 0, paS s n0 n1 10 sec n len 8 (tenB c))) := by kernel_rfl
theorem pr_10_9 (s : List UInt8) (n0 n1 sec n len : Int) (c : Nat → Int) : Rd sp 16 506 (paS s n0 n1 10 sec n len 9 (tenB c)) =
  (bif decide ((9 : Int) < len) then
     bif decide ((0 : Int) ≤ (9 : Int) ∧ (9 : Int) < (s.length : Int)) then
       bif noDig s 9 then some (.ret, paS s 0 40 10 sec n len 9 (tenB c))
       else some (.normal, paS s n0 n1 10 (more sec s 9) n len (IntKind.i64.wrap ((9 : Int) + 1)) (tenB c))
     else none
   else some (.exit 0, paS s n0 n1 10 sec n len 9 (tenB c))) := by kernel_rfl
theorem pr_10_10 (s : List UInt8) (n0 n1 sec n len : Int) (c : Nat → Int) : Rd sp 16 506 (paS s n0 n1 10 sec n len 10 (tenB c)) =
  (bif decide ((10 : Int) < len) then
     bif decide ((0 : Int) ≤ (10 : Int) ∧ (10 : Int) < (s.length : Int)) then
       some (.normal, paS s n0 n1 10 sec n len (IntKind.i64.wrap ((10 : Int) + 1)) (tenB c))
     else none
   else some (.exit 0, paS s n0 n1 10 sec n len 10 (tenB c))) := by kernel_rfl
theorem pr_10_11 (s : List UInt8) (n0 n1 sec n len : Int) (c : Nat → Int) : Rd sp 16 506 (paS s n0 n1 10 sec n len 11 (tenB c)) =
  (bif decide ((11 : Int) < len) then
     bif decide ((0 : Int) ≤ (11 : Int) ∧ (11 : Int) < (s.length : Int)) then
       bif noDig s 11 then some (.ret, paS s 0 40 10 sec n len 11 (tenB c))
       else some (.normal, paS s n0 n1 10 sec (more n s 11) len (IntKind.i64.wrap ((11 : Int) + 1)) (tenB fun k => bif Nat.beq k 0 then chr s 11 else c k))
     else none
   else some (.exit 0, paS s n0 n1 10 sec n len 11 (tenB c))) := by kernel_rfl
theorem pr_10_12 (s : List UInt8) (n0 n1 sec n len : Int) (c : Nat → Int) : Rd sp 16 506 (paS s n0 n1 10 sec n len 12 (tenB c)) =
  (bif decide ((12 : Int) < len) then
     bif decide ((0 : Int) ≤ (12 : Int) ∧ (12 : Int) < (s.length : Int)) then
       bif noDig s 12 then some (.ret, paS s 0 40 10 sec n len 12 (tenB c))
       else some (.normal, paS s n0 n1 10 sec (more n s 12) len (IntKind.i64.wrap ((12 : Int) + 1)) (tenB fun k => bif Nat.beq k 1 then chr s 12 else c k))
     else none
   else some (.exit 0, paS s n0 n1 10 sec n len 12 (tenB c))) := by kernel_rfl
theorem pr_10_13 (s : List UInt8) (n0 n1 sec n len : Int) (c : Nat → Int) : Rd sp 16 506 (paS s n0 n1 10 sec n len 13 (tenB c)) =
  (bif decide ((13 : Int) < len) then
     bif decide ((0 : Int) ≤ (13 : Int) ∧ (13 : Int) < (s.length : Int)) then
       bif noDig s 13 then some (.ret, paS s 0 40 10 sec n len 13 (tenB c))
       else some (.normal, paS s n0 n1 10 sec (more n s 13) len (IntKind.i64.wrap ((13 : Int) + 1)) (tenB fun k => bif Nat.beq k 2 then chr s 13 else c k))
     else none
   else some (.exit 0, paS s n0 n1 10 sec n len 13 (tenB c))) := by kernel_rfl
theorem pr_10_14 (s : List UInt8) (n0 n1 sec n len : Int) (c : Nat → Int) : Rd sp 16 506 (paS s n0 n1 10 sec n len 14 (tenB c)) =
  (bif decide ((14 : Int) < len) then
     bif decide ((0 : Int) ≤ (14 : Int) ∧ (14 : Int) < (s.length : Int)) then
       bif noDig s 14 then some (.ret, paS s 0 40 10 sec n len 14 (tenB c))
       else some (.normal, paS s n0 n1 10 sec (more n s 14) len (IntKind.i64.wrap ((14 : Int) + 1)) (tenB fun k => bif Nat.beq k 3 then chr s 14 else c k))
     else none
   else some (.exit 0, paS s n0 n1 10 sec n len 14 (tenB c))) := by kernel_rfl
theorem pr_10_15 (s : List UInt8) (n0 n1 sec n len : Int) (c : Nat → Int) : Rd sp 16 506 (paS s n0 n1 10 sec n len 15 (tenB c)) =
  (bif decide ((15 : Int) < len) then
     bif decide ((0 : Int) ≤ (15 : Int) ∧ (15 : Int) < (s.length : Int)) then
       bif noDig s 15 then some (.ret, paS s 0 40 10 sec n len 15 (tenB c))
       else some (.normal, paS s n0 n1 10 sec (more n s 15) len (IntKind.i64.wrap ((15 : Int) + 1)) (tenB fun k => bif Nat.beq k 4 then chr s 15 else c k))
     else none
   else some (.exit 0, paS s n0 n1 10 sec n len 15 (tenB c))) := by kernel_rfl
theorem pr_10_16 (s : List UInt8) (n0 n1 sec n len : Int) (c : Nat → Int) : Rd sp 16 506 (paS s n0 n1 10 sec n len 16 (tenB c)) =
  (bif decide ((16 : Int) < len) then
     bif decide ((0 : Int) ≤ (16 : Int) ∧ (16 : Int) < (s.length : Int)) then
       bif noDig s 16 then some (.ret, paS s 0 40 10 sec n len 16 (tenB c))
       else some (.normal, paS s n0 n1 10 sec (more n s 16) len (IntKind.i64.wrap ((16 : Int) + 1)) (tenB fun k => bif Nat.beq k 5 then chr s 16 else c k))
     else none
   else some (.exit 0, paS s n0 n1 10 sec n len 16 (tenB c))) := by kernel_rfl
theorem pr_10_17 (s : List UInt8) (n0 n1 sec n len : Int) (c : Nat → Int) : Rd sp 16 506 (paS s n0 n1 10 sec n len 17 (tenB c)) =
  (bif decide ((17 : Int) < len) then
     bif decide ((0 : Int) ≤ (17 : Int) ∧ (17 : Int) < (s.length : Int)) then
       bif noDig s 17 then some (.ret, paS s 0 40 10 sec n len 17 (tenB c))
       else some (.normal, paS s n0 n1 10 sec (more n s 17) len (IntKind.i64.wrap ((17 : Int) + 1)) (tenB fun k => bif Nat.beq k 6 then chr s 17 else c k))
     else none
   else some (.exit 0, paS s n0 n1 10 sec n len 17 (tenB c))) := by kernel_rfl
theorem pr_10_18 (s : List UInt8) (n0 n1 sec n len : Int) (c : Nat → Int) : Rd sp 16 506 (paS s n0 n1 10 sec n len 18 (tenB c)) =
  (bif decide ((18 : Int) < len) then
     bif decide ((0 : Int) ≤ (18 : Int) ∧ (18 : Int) < (s.length : Int)) then
       bif noDig s 18 then some (.ret, paS s 0 40 10 sec n len 18 (tenB c))
       else some (.normal, paS s n0 n1 10 sec (more n s 18) len (IntKind.i64.wrap ((18 : Int) + 1)) (tenB fun k => bif Nat.beq k 7 then chr s 18 else c k))
     else none
   else some (.exit 0, paS s n0 n1 10 sec n len 18 (tenB c))) := by kernel_rfl
theorem pr_10_19 (s : List UInt8) (n0 n1 sec n len : Int) (c : Nat → Int) : Rd sp 16 506 (paS s n0 n1 10 sec n len 19 (tenB c)) =
  (bif decide ((19 : Int) < len) then
     bif decide ((0 : Int) ≤ (19 : Int) ∧ (19 : Int) < (s.length : Int)) then
       bif noDig s 19 then some (.ret, paS s 0 40 10 sec n len 19 (tenB c))
       else some (.normal, paS s n0 n1 10 sec (more n s 19) len (IntKind.i64.wrap ((19 : Int) + 1)) (tenB fun k => bif Nat.beq k 8 then chr s 19 else c k))
     else none
   else some (.exit 0, paS s n0 n1 10 sec n len 19 (tenB c))) := by kernel_rfl
theorem pr_10_20 (s : List UInt8) (n0 n1 sec n len : Int) (c : Nat → Int) : Rd sp 16 506 (paS s n0 n1 10 sec n len 20 (tenB c)) =
  (bif decide ((20 : Int) < len) then
     bif decide ((0 : Int) ≤ (20 : Int) ∧ (20 : Int) < (s.length : Int)) then
       bif noDig s 20 then some (.ret, paS s 0 40 10 sec n len 20 (tenB c))
       else some (.normal, paS s n0 n1 10 sec (more n s 20) len (IntKind.i64.wrap ((20 : Int) + 1)) (tenB fun k => bif Nat.beq k 9 then chr s 20 else c k))
     else none
   else some (.exit 0, paS s n0 n1 10 sec n len 20 (tenB c))) := by kernel_rfl
end Go.Proofs.YthnleapnhkkeoaaDoor
