/- What the functions of the packages stamp and clepsydraref04 without loops answer. It bears no condition. -/
import Derived.Test.YthnleapnhkkeoaaDoorStBase
namespace Go.Proofs.YthnleapnhkkeoaaDoor
open Go Go.Im
set_option linter.unusedVariables false
set_option linter.unusedSimpArgs false

/-! ### Arithmetic -/
theorem and_xor : ∀ (n a b : Nat), a < 2 ^ n → b < 2 ^ n → 2 * (a &&& b) + (a ^^^ b) = a + b := by
  intro n
  induction n with
  | zero => intro a b ha hb; simp at ha hb; subst ha hb; rfl
  | succ n ih =>
    intro a b ha hb
    have h := ih (a / 2) (b / 2) (by omega) (by omega)
    rw [← Nat.and_div_two, ← Nat.xor_div_two] at h
    have m1 : (a &&& b) % 2 = if a % 2 = 1 ∧ b % 2 = 1 then 1 else 0 := by
      have := @Nat.and_mod_two_pow a b 1
      simp only [Nat.pow_one] at this
      rw [this]
      rcases Nat.mod_two_eq_zero_or_one a with e | e <;> rcases Nat.mod_two_eq_zero_or_one b with f | f <;> simp [e, f]
    have m2 : (a ^^^ b) % 2 = if a % 2 = b % 2 then 0 else 1 := by
      have := @Nat.xor_mod_two_pow a b 1
      simp only [Nat.pow_one] at this
      rw [this]
      rcases Nat.mod_two_eq_zero_or_one a with e | e <;> rcases Nat.mod_two_eq_zero_or_one b with f | f <;> simp [e, f]
    split at m1 <;> split at m2 <;> omega
theorem fdiv_pos (x : Int) {b : Int} (h : 0 ≤ b) : x.fdiv b = x / b := Int.fdiv_eq_ediv_of_nonneg x h
theorem tdiv_pos (x : Int) {b : Int} (h : 0 < b) : x.tdiv b = if 0 ≤ x then x / b else -((-x) / b) := by
  split
  · rename_i h0
    exact Int.tdiv_eq_ediv_of_nonneg h0
  · rename_i h0
    have := Int.tdiv_eq_ediv_of_nonneg (b := b) (show 0 ≤ -x by omega)
    rw [Int.neg_tdiv] at this
    omega
theorem tmod_pos (x : Int) {b : Int} (h : 0 < b) : x.tmod b = if 0 ≤ x then x % b else -((-x) % b) := by
  split
  · rename_i h0
    exact Int.tmod_eq_emod_of_nonneg h0
  · rename_i h0
    have := Int.tmod_eq_emod_of_nonneg (b := b) (show 0 ≤ -x by omega)
    rw [Int.neg_tmod] at this
    omega

def s64 (x : Int) : Int := IntKind.i64.wrap x
theorem s64_eq (n : Int) : s64 n = (n + 9223372036854775808) % 18446744073709551616 - 9223372036854775808 := wrap_i64 n
theorem s64_lo (n : Int) : -9223372036854775808 ≤ s64 n := by rw [s64_eq]; omega
theorem s64_hi (n : Int) : s64 n ≤ 9223372036854775807 := by rw [s64_eq]; omega

/-- The halves of two numbers, and what is left of them. -/
theorem and_half (x y : Int) (hx : -9223372036854775808 ≤ x ∧ x ≤ 9223372036854775807) (hy : -9223372036854775808 ≤ y ∧ y ≤ 9223372036854775807) :
    2 * ibits .and .i64 x y + ibits .xor .i64 x y = x + y := by
  obtain ⟨A, hA⟩ : ∃ A : Nat, (A : Int) = x % 18446744073709551616 := ⟨(x % 18446744073709551616).toNat, by omega⟩
  obtain ⟨B, hB⟩ : ∃ B : Nat, (B : Int) = y % 18446744073709551616 := ⟨(y % 18446744073709551616).toNat, by omega⟩
  have hA' : A < 2 ^ 64 := by omega
  have hB' : B < 2 ^ 64 := by omega
  have eA : (BitVec.ofInt 64 x).toNat = A := by
    rw [BitVec.toNat_ofInt]
    have : x % ((2 ^ 64 : Nat) : Int) = A := by rw [hA]; rfl
    rw [this]; rfl
  have eB : (BitVec.ofInt 64 y).toNat = B := by
    rw [BitVec.toNat_ofInt]
    have : y % ((2 ^ 64 : Nat) : Int) = B := by rw [hB]; rfl
    rw [this]; rfl
  have h1 : ibits .and .i64 x y = IntKind.i64.wrap ((A &&& B : Nat) : Int) := by
    show IntKind.i64.wrap (((BitVec.ofInt 64 x) &&& (BitVec.ofInt 64 y)).toNat : Int) = _
    rw [BitVec.toNat_and, eA, eB]
  have h2 : ibits .xor .i64 x y = IntKind.i64.wrap ((A ^^^ B : Nat) : Int) := by
    show IntKind.i64.wrap (((BitVec.ofInt 64 x) ^^^ (BitVec.ofInt 64 y)).toNat : Int) = _
    rw [BitVec.toNat_xor, eA, eB]
  have hs := and_xor 64 A B hA' hB'
  have hd1 : (A &&& B) / 2 ^ 63 = (A / 2 ^ 63) &&& (B / 2 ^ 63) := by rw [← Nat.shiftRight_eq_div_pow, Nat.shiftRight_and_distrib, Nat.shiftRight_eq_div_pow, Nat.shiftRight_eq_div_pow]
  have hd2 : (A ^^^ B) / 2 ^ 63 = (A / 2 ^ 63) ^^^ (B / 2 ^ 63) := by rw [← Nat.shiftRight_eq_div_pow, Nat.shiftRight_xor_distrib, Nat.shiftRight_eq_div_pow, Nat.shiftRight_eq_div_pow]
  rw [h1, h2, wrap_i64, wrap_i64]
  have ca : A / 2 ^ 63 = 0 ∨ A / 2 ^ 63 = 1 := by omega
  have cb : B / 2 ^ 63 = 0 ∨ B / 2 ^ 63 = 1 := by omega
  rcases ca with ca | ca <;> rcases cb with cb | cb <;> rw [ca, cb] at hd1 hd2 <;> simp only [Nat.and_self, Nat.xor_self, Nat.zero_and, Nat.and_zero, Nat.zero_xor, Nat.xor_zero] at hd1 hd2 <;> omega

/-! ### Contracts -/
def aliveF : SpecF := fun xs T => match xs, T with
  | [], [] => some (true, .bool true, [])
  | _, _ => none
/-- The fixed calls answer true. -/
theorem alive_known : Known Tryd.prog hint 11 aliveF := by
  refine known_of fits (spec := tab []) tab_nil loops_none ?_
  intro xs T v T1 h
  unfold aliveF at h
  split at h
  · cases h
    exact ⟨60, by kernel_rfl⟩
  · cases h

/-- A contract of a function of two whole numbers. -/
def F1 (k0 kr : IntKind) (t : Int → Bool) (g : Int → Int) : SpecF := fun xs T => match xs, T with
  | [.int k x], [] => if k = k0 then some (t x, .int kr (g x), []) else none
  | _, _ => none
def F2 (k0 k1 kr : IntKind) (t : Int → Int → Bool) (g : Int → Int → Int) : SpecF := fun xs T => match xs, T with
  | [.int k x, .int k' y], [] => if k = k0 ∧ k' = k1 then some (t x y, .int kr (g x y), []) else none
  | _, _ => none
def F4 (k0 kr : IntKind) (g : Int → Int → Int → Int → Int) : SpecF := fun xs T => match xs, T with
  | [.int k x, .int k' y, .int k'' z, .int k3 w], [] => if k = k0 ∧ k' = k0 ∧ k'' = k0 ∧ k3 = k0 then some (true, .int kr (g x y z w), []) else none
  | _, _ => none

section
variable {spec : FuncId → Option SpecF} (hs : ∀ f F, spec f = some F → Known Tryd.prog hint f F)
include hs
theorem known1 {f : FuncId} {k0 kr : IntKind} {t : Int → Bool} {g : Int → Int} {n : Nat}
    (h : ∀ x, t x = true → callK Tryd.prog hint spec (fun _ _ => none) n f [.int k0 x] [] (fun v T => some (v, T)) = some (.int kr (g x), [])) : Known Tryd.prog hint f (F1 k0 kr t g) := by
  refine known_of fits hs loops_none ?_
  intro xs T v T1 e
  unfold F1 at e
  split at e
  · split at e
    · rename_i hk
      subst hk
      simp only [Option.some.injEq, Prod.mk.injEq] at e
      obtain ⟨e1, rfl, rfl⟩ := e
      exact ⟨n, h _ e1⟩
    · cases e
  · cases e
theorem known2 {f : FuncId} {k0 k1 kr : IntKind} {t : Int → Int → Bool} {g : Int → Int → Int} {n : Nat}
    (h : ∀ x y, t x y = true → callK Tryd.prog hint spec (fun _ _ => none) n f [.int k0 x, .int k1 y] [] (fun v T => some (v, T)) = some (.int kr (g x y), [])) : Known Tryd.prog hint f (F2 k0 k1 kr t g) := by
  refine known_of fits hs loops_none ?_
  intro xs T v T1 e
  unfold F2 at e
  split at e
  · split at e
    · rename_i hk
      obtain ⟨rfl, rfl⟩ := hk
      simp only [Option.some.injEq, Prod.mk.injEq] at e
      obtain ⟨e1, rfl, rfl⟩ := e
      exact ⟨n, h _ _ e1⟩
    · cases e
  · cases e
theorem known4 {f : FuncId} {k0 kr : IntKind} {g : Int → Int → Int → Int → Int} {n : Nat}
    (h : ∀ x y z w, callK Tryd.prog hint spec (fun _ _ => none) n f [.int k0 x, .int k0 y, .int k0 z, .int k0 w] [] (fun v T => some (v, T)) = some (.int kr (g x y z w), [])) : Known Tryd.prog hint f (F4 k0 kr g) := by
  refine known_of fits hs loops_none ?_
  intro xs T v T1 e
  unfold F4 at e
  split at e
  · split at e
    · rename_i hk
      obtain ⟨rfl, rfl, rfl, rfl⟩ := hk
      simp only [Option.some.injEq, Prod.mk.injEq] at e
      obtain ⟨_, rfl, rfl⟩ := e
      exact ⟨n, h _ _ _ _⟩
    · cases e
  · cases e
end

def yes1 (_ : Int) : Bool := true
def yes2 (_ _ : Int) : Bool := true
def in64 (x : Int) : Bool := decide (-9223372036854775808 ≤ x ∧ x ≤ 9223372036854775807)
theorem in64_iff {x : Int} : in64 x = true ↔ -9223372036854775808 ≤ x ∧ x ≤ 9223372036854775807 := by simp [in64]
theorem in64_s (n : Int) : in64 (s64 n) = true := in64_iff.2 ⟨s64_lo n, s64_hi n⟩
def clamp (x : Int) : Int := if 9223372036854775807 < x then 9223372036854775807 else if x < -9223372036854775808 then -9223372036854775808 else x
noncomputable abbrev C (spec : FuncId → Option SpecF) (f : FuncId) (xs : List IV) : Option (IV × List Blk) := callK Tryd.prog hint spec (fun _ _ => none) 30 f xs [] (fun v T => some (v, T))

theorem diff_known : Known Tryd.prog hint 21 (F2 .u64 .u64 .i64 yes2 fun x y => s64 (x - y)) := known2 tab_nil (n := 30) fun x y _ => by
  have e : C (tab []) 21 [.int .u64 x, .int .u64 y] = some (IV.int IntKind.i64 (IntKind.i64.wrap (IntKind.u64.wrap (x - y))), []) := by kernel_rfl
  refine e.trans ?_
  have : IntKind.i64.wrap (IntKind.u64.wrap (x - y)) = s64 (x - y) := by rw [s64_eq, wrap_i64, wrap_u64]; omega
  rw [this]

theorem rdiff_known : Known Tryd.prog hint 27 (F2 .u64 .u64 .i64 yes2 fun x y => s64 (x - y)) := known2 tab_nil (n := 30) fun x y _ => by
  have e : C (tab []) 27 [.int .u64 x, .int .u64 y] = bif decide (IntKind.u64.wrap (x - y) < 9223372036854775808) then
  some (IV.int IntKind.i64 (IntKind.i64.wrap (IntKind.u64.wrap (x - y))), [])
else
  some
    (IV.int IntKind.i64
        (IntKind.i64.wrap
          (IntKind.i64.wrap
              (0 -
                IntKind.i64.wrap
                  (ibits BinOp.xor IntKind.u64 (if IntKind.u64.signed = true then -1 else IntKind.u64.max)
                    (IntKind.u64.wrap (x - y)))) -
            1)),
      []) := by kernel_rfl
  refine e.trans ?_
  have h2 : ibits BinOp.xor IntKind.u64 (if IntKind.u64.signed = true then -1 else IntKind.u64.max) (IntKind.u64.wrap (x - y)) = 18446744073709551615 - IntKind.u64.wrap (x - y) := by
    obtain ⟨A, hA⟩ : ∃ A : Nat, (A : Int) = IntKind.u64.wrap (x - y) := ⟨(IntKind.u64.wrap (x - y)).toNat, by rw [wrap_u64]; omega⟩
    have hl : A < 2 ^ 64 := by rw [wrap_u64] at hA; omega
    rw [← hA]
    show IntKind.u64.wrap (((BitVec.ofInt 64 18446744073709551615) ^^^ (BitVec.ofInt 64 (A : Int))).toNat : Int) = _
    have e1 : BitVec.ofInt 64 18446744073709551615 = BitVec.allOnes 64 := by decide
    have e2 : (BitVec.ofInt 64 (A : Int)).toNat = A := by rw [BitVec.toNat_ofInt]; omega
    rw [e1, BitVec.allOnes_xor, BitVec.toNat_not, e2, wrap_u64]
    omega
  cases hc : decide (IntKind.u64.wrap (x - y) < 9223372036854775808)
  · simp only [decide_eq_false_iff_not] at hc
    simp only [cond_false, h2]
    rw [s64_eq]
    simp only [wrap_i64, wrap_u64] at hc ⊢
    congr 3
    omega
  · simp only [cond_true]
    rw [s64_eq, wrap_i64, wrap_u64]
    congr 3
    omega

theorem move_known : Known Tryd.prog hint 20 (F2 .u64 .i64 .u64 yes2 fun x y => IntKind.u64.wrap (x + y)) := known2 tab_nil (n := 30) fun x y _ => by
  have e : C (tab []) 20 [.int .u64 x, .int .i64 y] = some (IV.int IntKind.u64 (IntKind.u64.wrap (x + IntKind.u64.wrap y)), []) := by kernel_rfl
  refine e.trans ?_
  have : IntKind.u64.wrap (x + IntKind.u64.wrap y) = IntKind.u64.wrap (x + y) := by simp only [wrap_u64]; omega
  rw [this]

theorem rmove_known : Known Tryd.prog hint 28 (F2 .u64 .i64 .u64 (fun _ y => in64 y) fun x y => IntKind.u64.wrap (x + y)) := known2 tab_nil (n := 30) fun x y hy => by
  have e : C (tab []) 28 [.int .u64 x, .int .i64 y] = bif decide (y ≥ 0) then some (IV.int IntKind.u64 (IntKind.u64.wrap (x + IntKind.u64.wrap y)), [])
else
  some
    (IV.int IntKind.u64
        (IntKind.u64.wrap
          (IntKind.u64.wrap (x - IntKind.u64.wrap (IntKind.i64.wrap (0 - IntKind.i64.wrap (y + 1)))) - 1)),
      []) := by kernel_rfl
  refine e.trans ?_
  have hy := in64_iff.1 hy
  cases hc : decide (y ≥ 0) <;> simp only [decide_eq_false_iff_not, decide_eq_true_eq] at hc <;> simp only [cond_true, cond_false] <;> congr 3 <;> simp only [wrap_u64, wrap_i64] <;> omega

theorem offset_known : Known Tryd.prog hint 12 (F4 .u64 .i64 fun t1 t2 t3 t4 => (s64 (t2 - t1) + s64 (t3 - t4)) / 2) := known4 (tab_cons diff_known tab_nil) (n := 30) fun x y z w => by
  have e : C (tab [(21, F2 .u64 .u64 .i64 yes2 fun x y => s64 (x - y))]) 12 [.int .u64 x, .int .u64 y, .int .u64 z, .int .u64 w] = some (IV.int IntKind.i64 (IntKind.i64.wrap (ibits BinOp.and IntKind.i64 (s64 (y - x)) (s64 (z - w)) + (ibits BinOp.xor IntKind.i64 (s64 (y - x)) (s64 (z - w))).fdiv 2)), []) := by kernel_rfl
  refine e.trans ?_
  have h := and_half (s64 (y - x)) (s64 (z - w)) ⟨s64_lo _, s64_hi _⟩ ⟨s64_lo _, s64_hi _⟩
  have a1 := s64_lo (y - x)
  have a2 := s64_hi (y - x)
  have b1 := s64_lo (z - w)
  have b2 := s64_hi (z - w)
  rw [fdiv_pos _ (by decide), wrap_i64]
  congr 3
  omega

theorem delay_known : Known Tryd.prog hint 14 (F4 .u64 .i64 fun t1 t2 t3 t4 => clamp (s64 (t4 - t1) - s64 (t3 - t2))) := known4 (tab_cons diff_known tab_nil) (n := 30) fun x y z w => by
  have e : C (tab [(21, F2 .u64 .u64 .i64 yes2 fun x y => s64 (x - y))]) 14 [.int .u64 x, .int .u64 y, .int .u64 z, .int .u64 w] = bif
    bif bif decide (s64 (w - x) ≥ 0) then decide (s64 (z - y) < 0) else false then
      decide (IntKind.i64.wrap (s64 (w - x) - s64 (z - y)) < 0)
    else false then
  some (IV.int IntKind.i64 9223372036854775807, [])
else
  bif
      bif bif decide (s64 (w - x) < 0) then decide (s64 (z - y) ≥ 0) else false then
        decide (IntKind.i64.wrap (s64 (w - x) - s64 (z - y)) ≥ 0)
      else false then
    some (IV.int IntKind.i64 (-9223372036854775808), [])
  else some (IV.int IntKind.i64 (IntKind.i64.wrap (s64 (w - x) - s64 (z - y))), []) := by kernel_rfl
  refine e.trans ?_
  have a1 := s64_lo (w - x)
  have a2 := s64_hi (w - x)
  have b1 := s64_lo (z - y)
  have b2 := s64_hi (z - y)
  generalize s64 (w - x) = p at *
  generalize s64 (z - y) = q at *
  rcases Int.lt_or_le p 0 with hp | hp <;> rcases Int.lt_or_le q 0 with hq | hq
  · have d1 : decide (p ≥ 0) = false := by simp; omega
    have d2 : decide (q ≥ 0) = false := by simp; omega
    simp only [d1, d2, cond_false, Bool.cond_self]
    have : IntKind.i64.wrap (p - q) = clamp (p - q) := by rw [wrap_i64, clamp, if_neg (by omega), if_neg (by omega)]; omega
    rw [this]
  · have d1 : decide (p ≥ 0) = false := by simp; omega
    have d2 : decide (q ≥ 0) = true := by simp; omega
    have d3 : decide (p < 0) = true := by simp; omega
    simp only [d1, d2, d3, cond_false, cond_true]
    cases hc : decide (IntKind.i64.wrap (p - q) ≥ 0) <;> simp only [decide_eq_false_iff_not, decide_eq_true_eq] at hc
    · have : IntKind.i64.wrap (p - q) = clamp (p - q) := by rw [wrap_i64] at hc ⊢; rw [clamp, if_neg (by omega), if_neg (by omega)]; omega
      simp only [cond_false, this]
    · have : clamp (p - q) = -9223372036854775808 := by rw [wrap_i64] at hc; rw [clamp, if_neg (by omega), if_pos (by omega)]
      simp only [cond_true, this]
  · have d1 : decide (p ≥ 0) = true := by simp; omega
    have d2 : decide (q < 0) = true := by simp; omega
    have d3 : decide (p < 0) = false := by simp; omega
    simp only [d1, d2, d3, cond_false, cond_true]
    cases hc : decide (IntKind.i64.wrap (p - q) < 0) <;> simp only [decide_eq_false_iff_not, decide_eq_true_eq] at hc
    · have : IntKind.i64.wrap (p - q) = clamp (p - q) := by rw [wrap_i64] at hc ⊢; rw [clamp, if_neg (by omega), if_neg (by omega)]; omega
      simp only [cond_false, this]
    · have : clamp (p - q) = 9223372036854775807 := by rw [wrap_i64] at hc; rw [clamp, if_pos (by omega)]
      simp only [cond_true, this]
  · have d1 : decide (q < 0) = false := by simp; omega
    have d2 : decide (p < 0) = false := by simp; omega
    simp only [d1, d2, cond_false, Bool.cond_self]
    have : IntKind.i64.wrap (p - q) = clamp (p - q) := by rw [wrap_i64, clamp, if_neg (by omega), if_neg (by omega)]; omega
    rw [this]

/-! ### The document's answers -/
theorem down_known : Known Tryd.prog hint 37 (F1 .i64 .i64 in64 fun x => x / 2) := known1 tab_nil (n := 30) fun x hx => by
  have e : C (tab []) 37 [.int .i64 x] = bif decide (x ≥ 0) == false then
  bif bif decide (x ≥ 0) then true else x.tmod 2 == 0 then some (IV.int IntKind.i64 (IntKind.i64.wrap (x.tdiv 2)), [])
  else some (IV.int IntKind.i64 (IntKind.i64.wrap (IntKind.i64.wrap (x.tdiv 2) - 1)), [])
else
  bif decide (x ≥ 0) == false then none
  else bif decide (x ≥ 0) then some (IV.int IntKind.i64 (IntKind.i64.wrap (x.tdiv 2)), []) else none := by kernel_rfl
  refine e.trans ?_
  have hx := in64_iff.1 hx
  rcases Int.lt_or_le x 0 with h | h
  · have d1 : decide (x ≥ 0) = false := by simp; omega
    have d3 : x.tdiv 2 = -((-x) / 2) := by rw [tdiv_pos _ (by decide), if_neg (by omega)]
    have d4 : x.tmod 2 = -((-x) % 2) := by rw [tmod_pos _ (by decide), if_neg (by omega)]
    simp only [d1, d3, d4, cond_false, cond_true, beq_self_eq_true]
    cases hc : (-((-x) % 2) == 0) <;> simp only [beq_eq_false_iff_ne, beq_iff_eq, ne_eq] at hc <;> simp only [cond_true, cond_false, wrap_i64] <;> congr 3 <;> omega
  · have d1 : decide (x ≥ 0) = true := by simp; omega
    have d3 : x.tdiv 2 = x / 2 := by rw [tdiv_pos _ (by decide), if_pos h]
    have d5 : (true == false) = false := rfl
    simp only [d1, d3, d5, cond_false, cond_true, wrap_i64]
    congr 3
    omega

theorem half_known : Known Tryd.prog hint 36 (F2 .i64 .i64 .i64 (fun x y => in64 x && in64 y) fun x y => (x + y) / 2) := known2 (tab_cons down_known tab_nil) (n := 30) fun x y h => by
  have e : C (tab [(37, F1 .i64 .i64 in64 fun x => x / 2)]) 36 [.int .i64 x, .int .i64 y] = bif in64 x then
  bif in64 y then
    some
      (IV.int IntKind.i64
          (IntKind.i64.wrap
            (IntKind.i64.wrap (x / 2 + y / 2) +
              IntKind.i64.wrap
                ((IntKind.i64.wrap
                      (IntKind.i64.wrap (x - IntKind.i64.wrap (2 * (x / 2))) +
                        IntKind.i64.wrap (y - IntKind.i64.wrap (2 * (y / 2))))).tdiv
                  2))),
        [])
  else none
else none := by kernel_rfl
  refine e.trans ?_
  simp only [Bool.and_eq_true] at h
  simp only [h.1, h.2, cond_true]
  have hx := in64_iff.1 h.1
  have hy := in64_iff.1 h.2
  have h1 : IntKind.i64.wrap (IntKind.i64.wrap (x - IntKind.i64.wrap (2 * (x / 2))) + IntKind.i64.wrap (y - IntKind.i64.wrap (2 * (y / 2)))) = x % 2 + y % 2 := by simp only [wrap_i64]; omega
  rw [h1, tdiv_pos _ (by decide), if_pos (by omega)]
  simp only [wrap_i64]
  congr 3
  omega

theorem roffset_known : Known Tryd.prog hint 13 (F4 .u64 .i64 fun t1 t2 t3 t4 => (s64 (t2 - t1) + s64 (t3 - t4)) / 2) := known4 (tab_cons half_known (tab_cons rdiff_known tab_nil)) (n := 30) fun x y z w => by
  have e : C (tab [(36, F2 .i64 .i64 .i64 (fun x y => in64 x && in64 y) fun x y => (x + y) / 2), (27, F2 .u64 .u64 .i64 yes2 fun x y => s64 (x - y))]) 13 [.int .u64 x, .int .u64 y, .int .u64 z, .int .u64 w] =
    bif in64 (s64 (y - x)) && in64 (s64 (z - w)) then some (IV.int IntKind.i64 ((s64 (y - x) + s64 (z - w)) / 2), []) else none := by kernel_rfl
  refine e.trans ?_
  simp only [in64_s, Bool.and_self, cond_true]

theorem rdelay_known : Known Tryd.prog hint 15 (F4 .u64 .i64 fun t1 t2 t3 t4 => clamp (s64 (t4 - t1) - s64 (t3 - t2))) := known4 (tab_cons down_known (tab_cons rdiff_known tab_nil)) (n := 30) fun x y z w => by
  have e : C (tab [(37, F1 .i64 .i64 in64 fun x => x / 2), (27, F2 .u64 .u64 .i64 yes2 fun x y => s64 (x - y))]) 15 [.int .u64 x, .int .u64 y, .int .u64 z, .int .u64 w] =
bif in64 (s64 (w - x)) then
  bif in64 (s64 (z - y)) then
    bif decide (IntKind.i64.wrap (s64 (w - x) / 2 - s64 (z - y) / 2) ≥ 4611686018427387904) then
      some (IV.int IntKind.i64 9223372036854775807, [])
    else
      bif in64 (s64 (w - x)) then
        bif in64 (s64 (z - y)) then
          bif
              bif decide (IntKind.i64.wrap (s64 (w - x) / 2 - s64 (z - y) / 2) < -4611686018427387904) then true
              else
                bif IntKind.i64.wrap (s64 (w - x) / 2 - s64 (z - y) / 2) == -4611686018427387904 then
                  decide
                    (IntKind.i64.wrap
                        (IntKind.i64.wrap (s64 (w - x) - IntKind.i64.wrap (2 * (s64 (w - x) / 2))) -
                          IntKind.i64.wrap (s64 (z - y) - IntKind.i64.wrap (2 * (s64 (z - y) / 2)))) <
                      0)
                else false then
            some (IV.int IntKind.i64 (-9223372036854775808), [])
          else
            some
              (IV.int IntKind.i64
                  (IntKind.i64.wrap
                    (IntKind.i64.wrap (2 * IntKind.i64.wrap (s64 (w - x) / 2 - s64 (z - y) / 2)) +
                      IntKind.i64.wrap
                        (IntKind.i64.wrap (s64 (w - x) - IntKind.i64.wrap (2 * (s64 (w - x) / 2))) -
                          IntKind.i64.wrap (s64 (z - y) - IntKind.i64.wrap (2 * (s64 (z - y) / 2)))))),
                [])
        else none
      else none
  else none
else none := by kernel_rfl
  refine e.trans ?_
  simp only [in64_s, cond_true]
  have a1 := s64_lo (w - x)
  have a2 := s64_hi (w - x)
  have b1 := s64_lo (z - y)
  have b2 := s64_hi (z - y)
  generalize s64 (w - x) = p at *
  generalize s64 (z - y) = q at *
  have h1 : IntKind.i64.wrap (p / 2 - q / 2) = p / 2 - q / 2 := by rw [wrap_i64]; omega
  have h2 : IntKind.i64.wrap (IntKind.i64.wrap (p - IntKind.i64.wrap (2 * (p / 2))) - IntKind.i64.wrap (q - IntKind.i64.wrap (2 * (q / 2)))) = p % 2 - q % 2 := by simp only [wrap_i64]; omega
  rw [h1, h2]
  rcases Int.lt_or_le (p / 2 - q / 2) 4611686018427387904 with g | g
  · have d1 : decide (p / 2 - q / 2 ≥ 4611686018427387904) = false := by simp; omega
    simp only [d1, cond_false]
    rcases Int.lt_or_le (p / 2 - q / 2) (-4611686018427387904) with k | k
    · have d2 : decide (p / 2 - q / 2 < -4611686018427387904) = true := by simp; omega
      have : clamp (p - q) = -9223372036854775808 := by rw [clamp, if_neg (by omega), if_pos (by omega)]
      simp only [d2, cond_true, this]
    · have d2 : decide (p / 2 - q / 2 < -4611686018427387904) = false := by simp; omega
      simp only [d2, cond_false]
      cases hc : (p / 2 - q / 2 == -4611686018427387904) <;> simp only [beq_eq_false_iff_ne, beq_iff_eq, ne_eq] at hc
      · have : clamp (p - q) = p - q := by rw [clamp, if_neg (by omega), if_neg (by omega)]
        simp only [cond_false, this, wrap_i64]
        congr 3
        omega
      · rcases Int.lt_or_le (p % 2 - q % 2) 0 with m | m
        · have d3 : decide (p % 2 - q % 2 < 0) = true := by simp; omega
          have : clamp (p - q) = -9223372036854775808 := by rw [clamp, if_neg (by omega), if_pos (by omega)]
          simp only [cond_true, d3, this]
        · have d3 : decide (p % 2 - q % 2 < 0) = false := by simp; omega
          have : clamp (p - q) = p - q := by rw [clamp, if_neg (by omega), if_neg (by omega)]
          simp only [cond_true, cond_false, d3, this, wrap_i64]
          congr 3
          omega
  · have d1 : decide (p / 2 - q / 2 ≥ 4611686018427387904) = true := by simp; omega
    have : clamp (p - q) = 9223372036854775807 := by
      unfold clamp
      split
      · rfl
      · rw [if_neg (by omega)]; omega
    simp only [d1, cond_true, this]
end Go.Proofs.YthnleapnhkkeoaaDoor
