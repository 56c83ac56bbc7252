/- What Div64 answers where the parts of a time are told. It bears no condition. -/
import Derived.Test.YthnleapnhkkeoaaDoorSpD
-- BYTES bytsE
namespace Go.Proofs.YthnleapnhkkeoaaDoor
open Go Go.Im
set_option linter.unusedVariables false
set_option linter.unusedSimpArgs false
def lzF : SpecF := fun xs T => match xs, T with | [.int .u64 y], [] => [(decide (y = 10000000000), .int .i64 30, [])] | _, _ => []
abbrev tabL : FuncId → Option SpecF := tab [(43, lzF)]
theorem lz_known : Known Tryd.prog hint 43 lzF := by
  refine known_of fits (spec := tab []) tab_nil loops_none ?_
  intro xs T v T1 h
  unfold lzF at h
  split at h
  · rename_i y
    simp only [List.mem_cons, List.not_mem_nil, or_false, Prod.mk.injEq, Bool.true_eq, decide_eq_true_eq] at h
    obtain ⟨rfl, rfl, rfl⟩ := h
    exact ⟨30, by kernel_rfl⟩
  · cases h
def dvG1 (t : Int → Int → Bool) : LiveF := fun vs bx => match vs, bx with
  | [.int .u64 h, .int .u64 l, .int .u64 y, .int .u64 r0, .int .u64 r1, .int .u64 s, .int .u64 yn1, .int .u64 yn0, .int .u64 un32, .int .u64 un10, .int .u64 un1, .int .u64 un0, .int .u64 q1, .int .u64 rh, .undef, .undef], [] =>
    [(t yn0 q1, .exit 0, [.int .u64 h, .int .u64 l, .int .u64 y, .int .u64 r0, .int .u64 r1, .int .u64 s, .int .u64 yn1, .int .u64 yn0, .int .u64 un32, .int .u64 un10, .int .u64 un1, .int .u64 un0, .int .u64 q1, .int .u64 rh, .undef, .undef], [])]
  | _, _ => []
def dvG2 (t : Int → Int → Bool) : LiveF := fun vs bx => match vs, bx with
  | [.int .u64 h, .int .u64 l, .int .u64 y, .int .u64 r0, .int .u64 r1, .int .u64 s, .int .u64 yn1, .int .u64 yn0, .int .u64 un32, .int .u64 un10, .int .u64 un1, .int .u64 un0, .int .u64 q1, .int .u64 rh, .int .u64 un21, .int .u64 q0], [] =>
    [(t yn0 q0, .exit 2, [.int .u64 h, .int .u64 l, .int .u64 y, .int .u64 r0, .int .u64 r1, .int .u64 s, .int .u64 yn1, .int .u64 yn0, .int .u64 un32, .int .u64 un10, .int .u64 un1, .int .u64 un0, .int .u64 q1, .int .u64 rh, .int .u64 un21, .int .u64 q0], [])]
  | _, _ => []
theorem dv_round1 (h l y r0 r1 s yn1 yn0 un32 un10 un1 un0 q1 rh : Int) : Rd tabL 38 131068 (Sx 38 [.int .u64 h, .int .u64 l, .int .u64 y, .int .u64 r0, .int .u64 r1, .int .u64 s, .int .u64 yn1, .int .u64 yn0, .int .u64 un32, .int .u64 un10, .int .u64 un1, .int .u64 un0, .int .u64 q1, .int .u64 rh, .undef, .undef] []) =
  (bif
       bif decide (q1 ≥ (4294967296 : Int)) then true
       else decide (IntKind.u64.wrap (q1 * yn0) > IntKind.u64.wrap (IntKind.u64.wrap ((4294967296 : Int) * rh) + un1)) then
     bif decide (IntKind.u64.wrap (rh + yn1) ≥ (4294967296 : Int)) then
       some
         (Ex.exit (nat_lit 0),
           Sx (38 : Nat)
             [IV.int IntKind.u64 h, IV.int IntKind.u64 l, IV.int IntKind.u64 y, IV.int IntKind.u64 r0,
               IV.int IntKind.u64 r1, IV.int IntKind.u64 s, IV.int IntKind.u64 yn1, IV.int IntKind.u64 yn0,
               IV.int IntKind.u64 un32, IV.int IntKind.u64 un10, IV.int IntKind.u64 un1, IV.int IntKind.u64 un0,
               IV.int IntKind.u64 (IntKind.u64.wrap (q1 - (1 : Int))), IV.int IntKind.u64 (IntKind.u64.wrap (rh + yn1)),
               IV.undef, IV.undef]
             [])
     else
       some
         (Ex.normal,
           Sx (38 : Nat)
             [IV.int IntKind.u64 h, IV.int IntKind.u64 l, IV.int IntKind.u64 y, IV.int IntKind.u64 r0,
               IV.int IntKind.u64 r1, IV.int IntKind.u64 s, IV.int IntKind.u64 yn1, IV.int IntKind.u64 yn0,
               IV.int IntKind.u64 un32, IV.int IntKind.u64 un10, IV.int IntKind.u64 un1, IV.int IntKind.u64 un0,
               IV.int IntKind.u64 (IntKind.u64.wrap (q1 - (1 : Int))), IV.int IntKind.u64 (IntKind.u64.wrap (rh + yn1)),
               IV.undef, IV.undef]
             [])
   else
     some
       (Ex.exit (nat_lit 0),
         Sx (38 : Nat)
           [IV.int IntKind.u64 h, IV.int IntKind.u64 l, IV.int IntKind.u64 y, IV.int IntKind.u64 r0, IV.int IntKind.u64 r1,
             IV.int IntKind.u64 s, IV.int IntKind.u64 yn1, IV.int IntKind.u64 yn0, IV.int IntKind.u64 un32,
             IV.int IntKind.u64 un10, IV.int IntKind.u64 un1, IV.int IntKind.u64 un0, IV.int IntKind.u64 q1,
             IV.int IntKind.u64 rh, IV.undef, IV.undef]
           [])) := by kernel_rfl
theorem dv_round2 (h l y r0 r1 s yn1 yn0 un32 un10 un1 un0 q1 rh un21 q0 : Int) : Rd tabL 38 2097148 (Sx 38 [.int .u64 h, .int .u64 l, .int .u64 y, .int .u64 r0, .int .u64 r1, .int .u64 s, .int .u64 yn1, .int .u64 yn0, .int .u64 un32, .int .u64 un10, .int .u64 un1, .int .u64 un0, .int .u64 q1, .int .u64 rh, .int .u64 un21, .int .u64 q0] []) =
  (bif
       bif decide (q0 ≥ (4294967296 : Int)) then true
       else decide (IntKind.u64.wrap (q0 * yn0) > IntKind.u64.wrap (IntKind.u64.wrap ((4294967296 : Int) * rh) + un0)) then
     bif decide (IntKind.u64.wrap (rh + yn1) ≥ (4294967296 : Int)) then
       some
         (Ex.exit (nat_lit 2),
           Sx (38 : Nat)
             [IV.int IntKind.u64 h, IV.int IntKind.u64 l, IV.int IntKind.u64 y, IV.int IntKind.u64 r0,
               IV.int IntKind.u64 r1, IV.int IntKind.u64 s, IV.int IntKind.u64 yn1, IV.int IntKind.u64 yn0,
               IV.int IntKind.u64 un32, IV.int IntKind.u64 un10, IV.int IntKind.u64 un1, IV.int IntKind.u64 un0,
               IV.int IntKind.u64 q1, IV.int IntKind.u64 (IntKind.u64.wrap (rh + yn1)), IV.int IntKind.u64 un21,
               IV.int IntKind.u64 (IntKind.u64.wrap (q0 - (1 : Int)))]
             [])
     else
       some
         (Ex.normal,
           Sx (38 : Nat)
             [IV.int IntKind.u64 h, IV.int IntKind.u64 l, IV.int IntKind.u64 y, IV.int IntKind.u64 r0,
               IV.int IntKind.u64 r1, IV.int IntKind.u64 s, IV.int IntKind.u64 yn1, IV.int IntKind.u64 yn0,
               IV.int IntKind.u64 un32, IV.int IntKind.u64 un10, IV.int IntKind.u64 un1, IV.int IntKind.u64 un0,
               IV.int IntKind.u64 q1, IV.int IntKind.u64 (IntKind.u64.wrap (rh + yn1)), IV.int IntKind.u64 un21,
               IV.int IntKind.u64 (IntKind.u64.wrap (q0 - (1 : Int)))]
             [])
   else
     some
       (Ex.exit (nat_lit 2),
         Sx (38 : Nat)
           [IV.int IntKind.u64 h, IV.int IntKind.u64 l, IV.int IntKind.u64 y, IV.int IntKind.u64 r0, IV.int IntKind.u64 r1,
             IV.int IntKind.u64 s, IV.int IntKind.u64 yn1, IV.int IntKind.u64 yn0, IV.int IntKind.u64 un32,
             IV.int IntKind.u64 un10, IV.int IntKind.u64 un1, IV.int IntKind.u64 un0, IV.int IntKind.u64 q1,
             IV.int IntKind.u64 rh, IV.int IntKind.u64 un21, IV.int IntKind.u64 q0]
           [])) := by kernel_rfl
noncomputable abbrev dvLs (t : Int → Int → Bool) : FuncId → Nat → Option LoopF := ltab [(38, 131068, loopF Tryd.prog hint 38 0 (dvG1 t)), (38, 2097148, loopF Tryd.prog hint 38 0 (dvG2 t))]
theorem div_tree (h l : Int) (t : Int → Int → Bool) : callK Tryd.prog hint tabL (dvLs t) 30 38 [.int .u64 h, .int .u64 l, .int .u64 10000000000] [] (fun v T => some (v, T)) =
  (bif decide ((10000000000 : Int) ≤ h) then none
   else
     bif h == (0 : Int) then
       some
         (IV.tup
             [IV.int IntKind.u64 (IntKind.u64.wrap (l.tdiv (10000000000 : Int))),
               IV.int IntKind.u64 (l.tmod (10000000000 : Int))],
           [])
     else
       bif
           t
             (ibits BinOp.and IntKind.u64 (IntKind.u64.wrap ((10000000000 : Int) * (2 : Int) ^ (30 : Nat)))
               (4294967295 : Int))
             (IntKind.u64.wrap
               ((ibits BinOp.or IntKind.u64 (IntKind.u64.wrap (h * (2 : Int) ^ (30 : Nat)))
                     (l.fdiv ((2 : Int) ^ (34 : Nat)))).tdiv
                 ((IntKind.u64.wrap ((10000000000 : Int) * (2 : Int) ^ (30 : Nat))).fdiv ((2 : Int) ^ (32 : Nat))))) then
         bif
             t
               (ibits BinOp.and IntKind.u64 (IntKind.u64.wrap ((10000000000 : Int) * (2 : Int) ^ (30 : Nat)))
                 (4294967295 : Int))
               (IntKind.u64.wrap
                 ((IntKind.u64.wrap
                       (IntKind.u64.wrap
                           (IntKind.u64.wrap
                               (ibits BinOp.or IntKind.u64 (IntKind.u64.wrap (h * (2 : Int) ^ (30 : Nat)))
                                   (l.fdiv ((2 : Int) ^ (34 : Nat))) *
                                 (4294967296 : Int)) +
                             (IntKind.u64.wrap (l * (2 : Int) ^ (30 : Nat))).fdiv ((2 : Int) ^ (32 : Nat))) -
                         IntKind.u64.wrap
                           (IntKind.u64.wrap
                               ((ibits BinOp.or IntKind.u64 (IntKind.u64.wrap (h * (2 : Int) ^ (30 : Nat)))
                                     (l.fdiv ((2 : Int) ^ (34 : Nat)))).tdiv
                                 ((IntKind.u64.wrap ((10000000000 : Int) * (2 : Int) ^ (30 : Nat))).fdiv
                                   ((2 : Int) ^ (32 : Nat)))) *
                             IntKind.u64.wrap ((10000000000 : Int) * (2 : Int) ^ (30 : Nat))))).tdiv
                   ((IntKind.u64.wrap ((10000000000 : Int) * (2 : Int) ^ (30 : Nat))).fdiv ((2 : Int) ^ (32 : Nat))))) then
           some
             (IV.tup
                 [IV.int IntKind.u64
                     (IntKind.u64.wrap
                       (IntKind.u64.wrap
                           (IntKind.u64.wrap
                               ((ibits BinOp.or IntKind.u64 (IntKind.u64.wrap (h * (2 : Int) ^ (30 : Nat)))
                                     (l.fdiv ((2 : Int) ^ (34 : Nat)))).tdiv
                                 ((IntKind.u64.wrap ((10000000000 : Int) * (2 : Int) ^ (30 : Nat))).fdiv
                                   ((2 : Int) ^ (32 : Nat)))) *
                             (4294967296 : Int)) +
                         IntKind.u64.wrap
                           ((IntKind.u64.wrap
                                 (IntKind.u64.wrap
                                     (IntKind.u64.wrap
                                         (ibits BinOp.or IntKind.u64 (IntKind.u64.wrap (h * (2 : Int) ^ (30 : Nat)))
                                             (l.fdiv ((2 : Int) ^ (34 : Nat))) *
                                           (4294967296 : Int)) +
                                       (IntKind.u64.wrap (l * (2 : Int) ^ (30 : Nat))).fdiv ((2 : Int) ^ (32 : Nat))) -
                                   IntKind.u64.wrap
                                     (IntKind.u64.wrap
                                         ((ibits BinOp.or IntKind.u64 (IntKind.u64.wrap (h * (2 : Int) ^ (30 : Nat)))
                                               (l.fdiv ((2 : Int) ^ (34 : Nat)))).tdiv
                                           ((IntKind.u64.wrap ((10000000000 : Int) * (2 : Int) ^ (30 : Nat))).fdiv
                                             ((2 : Int) ^ (32 : Nat)))) *
                                       IntKind.u64.wrap ((10000000000 : Int) * (2 : Int) ^ (30 : Nat))))).tdiv
                             ((IntKind.u64.wrap ((10000000000 : Int) * (2 : Int) ^ (30 : Nat))).fdiv
                               ((2 : Int) ^ (32 : Nat)))))),
                   IV.int IntKind.u64
                     ((IntKind.u64.wrap
                           (IntKind.u64.wrap
                               (IntKind.u64.wrap
                                   (IntKind.u64.wrap
                                       (IntKind.u64.wrap
                                           (IntKind.u64.wrap
                                               (ibits BinOp.or IntKind.u64 (IntKind.u64.wrap (h * (2 : Int) ^ (30 : Nat)))
                                                   (l.fdiv ((2 : Int) ^ (34 : Nat))) *
                                                 (4294967296 : Int)) +
                                             (IntKind.u64.wrap (l * (2 : Int) ^ (30 : Nat))).fdiv
                                               ((2 : Int) ^ (32 : Nat))) -
                                         IntKind.u64.wrap
                                           (IntKind.u64.wrap
                                               ((ibits BinOp.or IntKind.u64 (IntKind.u64.wrap (h * (2 : Int) ^ (30 : Nat)))
                                                     (l.fdiv ((2 : Int) ^ (34 : Nat)))).tdiv
                                                 ((IntKind.u64.wrap ((10000000000 : Int) * (2 : Int) ^ (30 : Nat))).fdiv
                                                   ((2 : Int) ^ (32 : Nat)))) *
                                             IntKind.u64.wrap ((10000000000 : Int) * (2 : Int) ^ (30 : Nat)))) *
                                     (4294967296 : Int)) +
                                 ibits BinOp.and IntKind.u64 (IntKind.u64.wrap (l * (2 : Int) ^ (30 : Nat)))
                                   (4294967295 : Int)) -
                             IntKind.u64.wrap
                               (IntKind.u64.wrap
                                   ((IntKind.u64.wrap
                                         (IntKind.u64.wrap
                                             (IntKind.u64.wrap
                                                 (ibits BinOp.or IntKind.u64
                                                     (IntKind.u64.wrap (h * (2 : Int) ^ (30 : Nat)))
                                                     (l.fdiv ((2 : Int) ^ (34 : Nat))) *
                                                   (4294967296 : Int)) +
                                               (IntKind.u64.wrap (l * (2 : Int) ^ (30 : Nat))).fdiv
                                                 ((2 : Int) ^ (32 : Nat))) -
                                           IntKind.u64.wrap
                                             (IntKind.u64.wrap
                                                 ((ibits BinOp.or IntKind.u64
                                                       (IntKind.u64.wrap (h * (2 : Int) ^ (30 : Nat)))
                                                       (l.fdiv ((2 : Int) ^ (34 : Nat)))).tdiv
                                                   ((IntKind.u64.wrap ((10000000000 : Int) * (2 : Int) ^ (30 : Nat))).fdiv
                                                     ((2 : Int) ^ (32 : Nat)))) *
                                               IntKind.u64.wrap ((10000000000 : Int) * (2 : Int) ^ (30 : Nat))))).tdiv
                                     ((IntKind.u64.wrap ((10000000000 : Int) * (2 : Int) ^ (30 : Nat))).fdiv
                                       ((2 : Int) ^ (32 : Nat)))) *
                                 IntKind.u64.wrap ((10000000000 : Int) * (2 : Int) ^ (30 : Nat))))).fdiv
                       ((2 : Int) ^ (30 : Nat)))],
               [])
         else none
       else none) := by kernel_rfl
def dvT (a q : Int) : Bool := decide (a = 0 ∧ 0 ≤ q ∧ q < 4294967296)
theorem dvT_iff {a q : Int} (h : true = dvT a q) : a = 0 ∧ 0 ≤ q ∧ q < 4294967296 := by simpa [dvT] using h.symm
theorem u64_nn (x : Int) : 0 ≤ IntKind.u64.wrap x := by rw [wrap_u64]; omega
theorem out_cond {q a r : Int} (h : a = 0 ∧ 0 ≤ q ∧ q < 4294967296) (u : Int) : (bif decide (q ≥ (4294967296 : Int)) then true else decide (IntKind.u64.wrap (q * a) > IntKind.u64.wrap (IntKind.u64.wrap ((4294967296 : Int) * r) + u))) = false := by
  obtain ⟨rfl, h1, h2⟩ := h
  have g : decide (q ≥ (4294967296 : Int)) = false := by simp; omega
  have e : IntKind.u64.wrap (q * 0) = 0 := by simp [wrap_u64]
  have := u64_nn (IntKind.u64.wrap ((4294967296 : Int) * r) + u)
  rw [g, cond_false, e]
  simp only [decide_eq_false_iff_not]
  omega
theorem dv_loop1 : LoopOK Tryd.prog hint (acall Tryd.prog hint (ovrOf tabL)) (itOf Tryd.prog hint (acall Tryd.prog hint (ovrOf tabL))) (hint.kp 38) (itemAt Tryd.prog 38 131068) (loopF Tryd.prog hint 38 0 (dvG1 dvT)) := by
  refine loopF_ok fun vs bx e vs' bx' h => ?_
  unfold dvG1 at h
  split at h
  · simp only [List.mem_cons, List.not_mem_nil, or_false, Prod.mk.injEq] at h
    obtain ⟨h1, rfl, rfl, rfl⟩ := h
    have h1 := dvT_iff h1
    have hin := inner_of (P := Tryd.prog) (H := hint) (call := acall Tryd.prog hint (ovrOf tabL)) (f := 38) (q := 131068) (ls := fun _ _ => none) (by kernel_rfl)
    refine Runs.last loops_none hin (by simp) ((dv_round1 _ _ _ _ _ _ _ _ _ _ _ _ _ _).trans ?_)
    rw [out_cond h1]
    rfl
  · cases h
theorem dv_loop2 : LoopOK Tryd.prog hint (acall Tryd.prog hint (ovrOf tabL)) (itOf Tryd.prog hint (acall Tryd.prog hint (ovrOf tabL))) (hint.kp 38) (itemAt Tryd.prog 38 2097148) (loopF Tryd.prog hint 38 0 (dvG2 dvT)) := by
  refine loopF_ok fun vs bx e vs' bx' h => ?_
  unfold dvG2 at h
  split at h
  · simp only [List.mem_cons, List.not_mem_nil, or_false, Prod.mk.injEq] at h
    obtain ⟨h1, rfl, rfl, rfl⟩ := h
    have h1 := dvT_iff h1
    have hin := inner_of (P := Tryd.prog) (H := hint) (call := acall Tryd.prog hint (ovrOf tabL)) (f := 38) (q := 2097148) (ls := fun _ _ => none) (by kernel_rfl)
    refine Runs.last loops_none hin (by simp) ((dv_round2 _ _ _ _ _ _ _ _ _ _ _ _ _ _ _ _).trans ?_)
    rw [out_cond h1]
    rfl
  · cases h
theorem dvLs_ok : LoopsOK Tryd.prog hint (acall Tryd.prog hint (ovrOf tabL)) (dvLs dvT) := ltab_cons (by kernel_rfl) dv_loop1 (ltab_cons (by kernel_rfl) dv_loop2 ltab_nil)
theorem ior30 {a b : Nat} (ha : a < 17179869184) (hb : b < 1073741824) : ibits .or .u64 ((a * 1073741824 : Nat) : Int) (b : Int) = ((a * 1073741824 + b : Nat) : Int) := by
  show IntKind.u64.wrap (((BitVec.ofInt 64 ((a * 1073741824 : Nat) : Int)) ||| (BitVec.ofInt 64 (b : Int))).toNat : Int) = _
  have a1 : (BitVec.ofInt 64 ((a * 1073741824 : Nat) : Int)).toNat = 2 ^ 30 * a := by rw [BitVec.toNat_ofInt]; omega
  have a2 : (BitVec.ofInt 64 (b : Int)).toNat = b := by rw [BitVec.toNat_ofInt]; omega
  rw [BitVec.toNat_or, a1, a2, ← Nat.two_pow_add_eq_or_of_lt (by omega), wrap_u64]
  omega
theorem div_rest0 (n Q R : Nat) (hn2 : n < 10000000000) (h : n * 4294967296 = 10000000000 * Q + R) (hR : R < 10000000000) : IntKind.u64.wrap (IntKind.u64.wrap (IntKind.u64.wrap (((n * 1073741824 : Nat) : Int) * 4294967296) + 0) - IntKind.u64.wrap ((Q : Int) * 10737418240000000000)) = ((R * 1073741824 : Nat) : Int) := by
  have a1 : IntKind.u64.wrap (IntKind.u64.wrap (((n * 1073741824 : Nat) : Int) * 4294967296) + 0) = ((n : Int) * 4611686018427387904) % 18446744073709551616 := by simp only [wrap_u64]; omega
  have a2 : (n : Int) * 4611686018427387904 = (Q : Int) * 10737418240000000000 + (R : Int) * 1073741824 := by omega
  rw [a1, a2, wrap_u64, wrap_u64, ← Int.sub_emod, Int.add_comm, Int.add_sub_cancel]
  omega
theorem div_rest {n : Nat} (hn2 : n < 10000000000) : (IntKind.u64.wrap (IntKind.u64.wrap (IntKind.u64.wrap (((n * 1073741824 : Nat) : Int) * 4294967296) + 0) - IntKind.u64.wrap (((n * 4294967296 / 10000000000 : Nat) : Int) * 10737418240000000000))).fdiv ((2 : Int) ^ (30 : Nat)) = ((n * 4294967296 % 10000000000 : Nat) : Int) := by
  have p30 : (2 : Int) ^ (30 : Nat) = 1073741824 := rfl
  rw [div_rest0 n _ _ hn2 (Nat.div_add_mod _ _).symm (Nat.mod_lt _ (by decide)), p30, Int.fdiv_eq_ediv_of_nonneg _ (by decide)]
  omega
theorem div_small {n : Nat} (h : n < 10000000000) : n * 4294967296 / 10000000000 < 18446744073709551616 := by omega
def divF : SpecF := fun xs T => match xs, T with
  | [.int .u64 h, .int .u64 l, .int .u64 y], [] => [(decide (y = 10000000000 ∧ 0 ≤ h ∧ 0 ≤ l ∧ l < 18446744073709551616 ∧ l % 4294967296 = 0 ∧ h * 4294967296 + l / 4294967296 < 10000000000),
      .tup [.int .u64 ((h * 18446744073709551616 + l) / 10000000000), .int .u64 ((h * 18446744073709551616 + l) % 10000000000)], [])]
  | _, _ => []
theorem div_known : Known Tryd.prog hint 38 divF := by
  refine known_of fits (spec := tabL) (tab_cons lz_known tab_nil) dvLs_ok ?_
  intro xs T v T1 h
  unfold divF at h
  split at h
  · rename_i h l y
    simp only [List.mem_cons, List.not_mem_nil, or_false, Prod.mk.injEq, Bool.true_eq, decide_eq_true_eq] at h
    obtain ⟨⟨rfl, h1, h2, h3, h4, h5⟩, rfl, rfl⟩ := h
    obtain ⟨n, hn⟩ : ∃ n : Nat, (n : Int) = h * 4294967296 + l / 4294967296 := ⟨(h * 4294967296 + l / 4294967296).toNat, by omega⟩
    have hn2 : n < 10000000000 := by omega
    have eh : h = ((n / 4294967296 : Nat) : Int) := by omega
    have el : l = ((n % 4294967296 * 4294967296 : Nat) : Int) := by omega
    have eq1 : (h * 18446744073709551616 + l) / 10000000000 = ((n * 4294967296 / 10000000000 : Nat) : Int) := by omega
    have eq2 : (h * 18446744073709551616 + l) % 10000000000 = ((n * 4294967296 % 10000000000 : Nat) : Int) := by omega
    refine ⟨30, (div_tree _ _ _).trans ?_⟩
    rw [eq1, eq2]
    clear eq1 eq2
    have g1 : decide ((10000000000 : Int) ≤ h) = false := by simp; omega
    have p30 : (2 : Int) ^ (30 : Nat) = 1073741824 := rfl
    have p32 : (2 : Int) ^ (32 : Nat) = 4294967296 := rfl
    have p34 : (2 : Int) ^ (34 : Nat) = 17179869184 := rfl
    rw [g1, cond_false]
    by_cases h0 : h = 0
    · have g2 : (h == (0 : Int)) = true := by simpa using h0
      have e1 : IntKind.u64.wrap (l.tdiv (10000000000 : Int)) = ((n * 4294967296 / 10000000000 : Nat) : Int) := by
        have q0 : n / 4294967296 = 0 := by omega
        have q1 : n % 4294967296 = n := by omega
        rw [q1] at el
        have e : ((n * 4294967296 : Nat) : Int).tdiv 10000000000 = ((n * 4294967296 / 10000000000 : Nat) : Int) := rfl
        rw [el, e, n_u64, Nat.mod_eq_of_lt (div_small hn2)]
      have e2 : l.tmod (10000000000 : Int) = ((n * 4294967296 % 10000000000 : Nat) : Int) := by rw [Int.tmod_eq_emod_of_nonneg h2]; omega
      rw [g2, cond_true, e1, e2]
    · have g2 : (h == (0 : Int)) = false := by simpa using h0
      have y1 : IntKind.u64.wrap ((10000000000 : Int) * (2 : Int) ^ (30 : Nat)) = 10737418240000000000 := by decide
      have y2 : Int.fdiv (10737418240000000000 : Int) ((2 : Int) ^ (32 : Nat)) = 2500000000 := by decide
      have y3 : ibits BinOp.and IntKind.u64 (10737418240000000000 : Int) (4294967295 : Int) = 0 := by decide
      have u1 : IntKind.u64.wrap (h * (2 : Int) ^ (30 : Nat)) = ((n / 4294967296 * 1073741824 : Nat) : Int) := by rw [p30, wrap_u64]; omega
      have u2 : l.fdiv ((2 : Int) ^ (34 : Nat)) = ((n % 4294967296 / 4 : Nat) : Int) := by rw [p34, Int.fdiv_eq_ediv_of_nonneg _ (by decide)]; omega
      have u3 : ibits BinOp.or IntKind.u64 (IntKind.u64.wrap (h * (2 : Int) ^ (30 : Nat))) (l.fdiv ((2 : Int) ^ (34 : Nat))) = ((n / 4 : Nat) : Int) := by
        rw [u1, u2, ior30 (by omega) (by omega)]; omega
      have u4 : IntKind.u64.wrap (l * (2 : Int) ^ (30 : Nat)) = ((n % 4 * 4611686018427387904 : Nat) : Int) := by rw [p30, wrap_u64]; omega
      have u5 : ((n % 4 * 4611686018427387904 : Nat) : Int).fdiv ((2 : Int) ^ (32 : Nat)) = ((n % 4 * 1073741824 : Nat) : Int) := by rw [n_sh32]; omega
      have u6 : ibits BinOp.and IntKind.u64 ((n % 4 * 4611686018427387904 : Nat) : Int) (4294967295 : Int) = 0 := by rw [and32 (by omega)]; omega
      have u7 : IntKind.u64.wrap (((n / 4 : Nat) : Int).tdiv 2500000000) = 0 := by rw [Int.tdiv_eq_ediv_of_nonneg (by omega), wrap_u64]; omega
      have u8 : IntKind.u64.wrap (IntKind.u64.wrap (IntKind.u64.wrap (((n / 4 : Nat) : Int) * 4294967296) + ((n % 4 * 1073741824 : Nat) : Int)) - IntKind.u64.wrap (0 * 10737418240000000000)) = ((n * 1073741824 : Nat) : Int) := by simp only [wrap_u64]; omega
      have u9 : IntKind.u64.wrap (((n * 1073741824 : Nat) : Int).tdiv 2500000000) = ((n * 4294967296 / 10000000000 : Nat) : Int) := by
        have e : ((n * 1073741824 : Nat) : Int).tdiv 2500000000 = ((n * 1073741824 / 2500000000 : Nat) : Int) := rfl
        have e' : n * 4294967296 / 10000000000 = n * 1073741824 / 2500000000 := by
          have := Nat.mul_div_mul_right (n * 1073741824) 2500000000 (show 0 < 4 by decide)
          rw [Nat.mul_assoc] at this
          exact this
        rw [e, e', n_u64, Nat.mod_eq_of_lt (by omega)]
      rw [g2, cond_false, u3, u4, y1, y2, y3, u5, u6, u7, u8, u9]
      have t1 : dvT 0 0 = true := by decide
      have hq : n * 4294967296 / 10000000000 < 4294967296 := by omega
      have t2 : dvT 0 ((n * 4294967296 / 10000000000 : Nat) : Int) = true := by rw [dvT, decide_eq_true_eq]; exact ⟨rfl, by omega, by omega⟩
      rw [t1, t2, cond_true, cond_true]
      have z1 : IntKind.u64.wrap (IntKind.u64.wrap (0 * 4294967296) + ((n * 4294967296 / 10000000000 : Nat) : Int)) = ((n * 4294967296 / 10000000000 : Nat) : Int) := by simp only [wrap_u64]; omega
      have z2 := div_rest hn2
      rw [z1, z2]
  · cases h
end Go.Proofs.YthnleapnhkkeoaaDoor
