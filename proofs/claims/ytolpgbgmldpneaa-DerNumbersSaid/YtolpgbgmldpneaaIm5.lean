/- An ideal machine for the model's programs: its values are trees, its operations are told by plain functions; what it answers the model's machine does (part 5). It bears no condition. -/
import Derived.Test.YtolpgbgmldpneaaIm4
namespace Go.Im
open Go Go.RowKit Go.ChangeShapes
set_option linter.unusedVariables false
set_option linter.unusedSimpArgs false
set_option linter.unnecessarySimpa false
set_option linter.unusedSectionVars false

/-! ### How much arguments hold -/
/-- A count of what a reading holds. -/
structure Bulk {H : Type} (B : DataW H → Nat) (BA : List (DataW H) → Nat) : Prop where
  one : ∀ d, 1 ≤ B d
  str : ∀ s : List UInt8, s.length + 1 ≤ B (.lit (.string s))
  slice : ∀ a b, BA a + 1 ≤ B (.slice a b)
  agg : ∀ a, BA a ≤ B (.agg a)
  cons : ∀ d r, BA (d :: r) = B d + BA r
section
variable {H : Type} {enc : TypeId × Value → H} {P : Program} {w : World} {held : Bool} {ok : Nat → Prop} {sp : Nat → Bool} {B : DataW H → Nat} {BA : List (DataW H) → Nat}

end

section
variable {P : Program} {H : Hint}
end
end Go.Im

namespace Go.Im
open Go
set_option linter.unusedVariables false
set_option linter.unusedSimpArgs false
set_option linter.unnecessarySimpa false
set_option linter.unusedSimpArgs false
set_option maxRecDepth 20000

/-! ### Digits -/
theorem dig_mod {b m r x : Nat} (h : r < m) (hb : 0 < b) : x % b ^ m / b ^ r % b = x / b ^ r % b := by
  obtain ⟨k, rfl⟩ : ∃ k, m = r + (k + 1) := ⟨m - r - 1, by omega⟩
  rw [Nat.pow_add, Nat.mod_mul_right_div_self]
  exact Nat.mod_mod_of_dvd _ ⟨b ^ k, by rw [Nat.pow_succ, Nat.mul_comm]⟩
theorem div_pow_add {b x i j : Nat} : x / b ^ i / b ^ j = x / b ^ (i + j) := by rw [Nat.div_div_eq_div_mul, Nat.pow_add]
theorem div_pow_succ {b x i : Nat} : x / b ^ (i + 1) = x / b ^ i / b := by rw [Nat.pow_succ, Nat.div_div_eq_div_mul]
/-- A digit, and what is ahead of it. -/
theorem div_step {b x i : Nat} (hb : 0 < b) : x / b ^ i = b * (x / b ^ (i + 1)) + x / b ^ i % b := by
  rw [div_pow_succ]
  exact (Nat.div_add_mod _ _).symm

/-! ### Numbers of limbs -/
def valL : List Nat → Nat
  | [] => 0
  | x :: xs => x + 18446744073709551616 * valL xs
def okL (l : List Nat) : Prop := ∀ x ∈ l, x < 18446744073709551616
def w64s (l : List Nat) : List IV := l.map fun (n : Nat) => IV.int .u64 (n : Int)
theorem w64s_len (l : List Nat) : (w64s l).length = l.length := by simp [w64s]
theorem w64s_app (a b : List Nat) : w64s (a ++ b) = w64s a ++ w64s b := by simp [w64s]
theorem w64s_cons (a : Nat) (b : List Nat) : w64s (a :: b) = .int .u64 (a : Int) :: w64s b := rfl
theorem w64s_nth {l : List Nat} {i : Nat} (h : i < l.length) : nthD (w64s l) i = .int .u64 (l[i] : Int) := by
  rw [w64s, nthD_mapf (by simpa using h)]
theorem w64s_take (l : List Nat) (n : Nat) : (w64s l).take n = w64s (l.take n) := by simp [w64s, List.map_take]
theorem w64s_set (l : List Nat) (i n : Nat) : (w64s l).set i (.int .u64 (n : Int)) = w64s (l.set i n) := by simp [w64s, List.map_set]
theorem w64s_rep (n : Nat) : List.replicate n (IV.int .u64 0) = w64s (List.replicate n 0) := by simp [w64s]
def okW (xs : List IV) : Bool := xs.all fun x => match x with | .int .u64 n => decide (0 ≤ n ∧ n < 18446744073709551616) | _ => false
def toW (xs : List IV) : List Nat := xs.map fun x => (intOf x).toNat
theorem toW_w64s (l : List Nat) : toW (w64s l) = l := by
  unfold toW w64s
  rw [List.map_map]
  exact (List.map_congr_left fun x _ => by simp [intOf]).trans (List.map_id l)
theorem okW_eq : ∀ {xs : List IV}, okW xs = true → xs = w64s (toW xs) ∧ okL (toW xs)
  | [], _ => ⟨rfl, fun x h => by cases h⟩
  | x :: xs, h => by
    unfold okW at h
    rw [List.all_cons, Bool.and_eq_true] at h
    obtain ⟨h1, h2⟩ := h
    obtain ⟨i1, i2⟩ := okW_eq (xs := xs) h2
    split at h1
    · rename_i n
      have h1 := of_decide_eq_true h1
      refine ⟨?_, ?_⟩
      · show _ = IV.int .u64 (((intOf (IV.int .u64 n)).toNat : Nat) : Int) :: w64s (toW xs)
        rw [← i1]
        simp only [intOf]
        rw [Int.toNat_of_nonneg h1.1]
      · intro y hy
        rcases List.mem_cons.1 hy with rfl | hy
        · simp only [intOf]; omega
        · exact i2 y hy
    · cases h1
theorem u64_ok {n : Nat} (h : n < 18446744073709551616) : decide ((0 : Int) ≤ (n : Int) ∧ (n : Int) < 18446744073709551616) = true := decide_eq_true ⟨Int.natCast_nonneg n, by omega⟩
theorem okW_cons {n : Int} {l : List IV} : okW (.int .u64 n :: l) = (decide (0 ≤ n ∧ n < 18446744073709551616) && okW l) := Eq.trans rfl rfl
theorem okW_w64s : ∀ {l : List Nat}, okL l → okW (w64s l) = true
  | [], _ => rfl
  | x :: l, h => by
    have h1 := h x (List.mem_cons_self ..)
    have ih := okW_w64s (l := l) fun y hy => h y (List.mem_cons_of_mem _ hy)
    rw [w64s_cons, okW_cons, u64_ok h1, ih]
    rfl
theorem okL_nil : okL [] := fun x h => by cases h
theorem okL_cons {x : Nat} {l : List Nat} : okL (x :: l) ↔ x < 18446744073709551616 ∧ okL l :=
  ⟨fun h => ⟨h x (List.mem_cons_self ..), fun y hy => h y (List.mem_cons_of_mem _ hy)⟩, fun h y hy => by
    rcases List.mem_cons.1 hy with rfl | hy
    · exact h.1
    · exact h.2 y hy⟩
theorem okL_app {a b : List Nat} (ha : okL a) (hb : okL b) : okL (a ++ b) := fun x hx => (List.mem_append.1 hx).elim (ha x) (hb x)
theorem okL_rep (n : Nat) : okL (List.replicate n 0) := fun x hx => by rw [(List.mem_replicate.1 hx).2]; decide
theorem valL_app : ∀ a b : List Nat, valL (a ++ b) = valL a + 18446744073709551616 ^ a.length * valL b
  | [], b => by simp [valL]
  | x :: a, b => by
    show x + 18446744073709551616 * valL (a ++ b) = x + 18446744073709551616 * valL a + 18446744073709551616 ^ (a.length + 1) * valL b
    rw [valL_app a b, Nat.pow_succ, Nat.mul_add, Nat.mul_comm (18446744073709551616 ^ a.length) 18446744073709551616, Nat.mul_assoc]
    omega
theorem valL_lt : ∀ {l : List Nat}, okL l → valL l < 18446744073709551616 ^ l.length
  | [], _ => by simp [valL]
  | x :: l, h => by
    obtain ⟨h1, h2⟩ := okL_cons.1 h
    have ih := valL_lt h2
    show x + 18446744073709551616 * valL l < 18446744073709551616 ^ (l.length + 1)
    rw [Nat.pow_succ]
    omega
theorem limb_at : ∀ {l : List Nat} {i : Nat}, okL l → (h : i < l.length) → l[i] = valL l / 18446744073709551616 ^ i % 18446744073709551616
  | x :: l, 0, ho, h => by
    have := (okL_cons.1 ho).1
    show x = (x + 18446744073709551616 * valL l) / 18446744073709551616 ^ 0 % 18446744073709551616
    rw [Nat.pow_zero, Nat.div_one]
    omega
  | x :: l, i + 1, ho, h => by
    obtain ⟨h1, h2⟩ := okL_cons.1 ho
    have ih := limb_at (i := i) h2 (by simpa using h)
    show l[i]'(by simpa using h) = (x + 18446744073709551616 * valL l) / 18446744073709551616 ^ (i + 1) % 18446744073709551616
    rw [Nat.pow_succ, Nat.mul_comm (18446744073709551616 ^ i), ← Nat.div_div_eq_div_mul, show (x + 18446744073709551616 * valL l) / 18446744073709551616 = valL l by omega]
    exact ih
theorem limb_dig {l : List Nat} {b w i : Nat} (hb : 0 < b) (hw : b ^ w = 18446744073709551616) (hw0 : 0 < w) (ho : okL l) (h : i / w < l.length) : l[i / w] / b ^ (i % w) % b = valL l / b ^ i % b := by
  rw [limb_at ho h, ← hw, dig_mod (Nat.mod_lt _ hw0) hb, ← Nat.pow_mul, div_pow_add, Nat.div_add_mod]
/-- The limbs of a number, without noughts at the end. -/
def limbs (n : Nat) : List Nat := if h : n = 0 then [] else n % 18446744073709551616 :: limbs (n / 18446744073709551616)
termination_by n
decreasing_by omega
theorem limbs_zero : limbs 0 = [] := by unfold limbs; rfl
theorem limbs_pos {n : Nat} (h : n ≠ 0) : limbs n = n % 18446744073709551616 :: limbs (n / 18446744073709551616) := by
  conv => lhs; unfold limbs
  rw [dif_neg h]
theorem limbs_ok (n : Nat) : okL (limbs n) := by
  induction n using Nat.strongRecOn with
  | ind n ih =>
    by_cases h : n = 0
    · subst h; rw [limbs_zero]; exact okL_nil
    · rw [limbs_pos h]; exact okL_cons.2 ⟨Nat.mod_lt _ (by decide), ih _ (by omega)⟩
/-- A row without noughts at its end. -/
def trimL : List Nat → List Nat
  | [] => []
  | x :: l => match trimL l with
    | [] => if x = 0 then [] else [x]
    | y :: r => x :: y :: r
theorem trimL_eq : ∀ {l : List Nat}, okL l → trimL l = limbs (valL l)
  | [], _ => limbs_zero.symm
  | x :: l, ho => by
    obtain ⟨h1, h2⟩ := okL_cons.1 ho
    have ih := trimL_eq h2
    show (match trimL l with | [] => if x = 0 then [] else [x] | y :: r => x :: y :: r) = limbs (x + 18446744073709551616 * valL l)
    rw [ih]
    by_cases hv : valL l = 0
    · rw [hv, limbs_zero]
      by_cases hx : x = 0
      · subst hx; simp [limbs_zero]
      · rw [limbs_pos (by omega), show (x + 18446744073709551616 * 0) / 18446744073709551616 = 0 by omega, limbs_zero, show (x + 18446744073709551616 * 0) % 18446744073709551616 = x by omega]
        simp [hx]
    · rw [limbs_pos (n := x + 18446744073709551616 * valL l) (by omega), show (x + 18446744073709551616 * valL l) / 18446744073709551616 = valL l by omega, show (x + 18446744073709551616 * valL l) % 18446744073709551616 = x by omega]
      rw [limbs_pos hv]
theorem trimL_snoc {y : Nat} (hy : y ≠ 0) : ∀ l : List Nat, trimL (l ++ [y]) = l ++ [y]
  | [] => by show (if y = 0 then [] else [y]) = [y]; rw [if_neg hy]
  | x :: l => by
    show (match trimL (l ++ [y]) with | [] => if x = 0 then [] else [x] | y :: r => x :: y :: r) = _
    rw [trimL_snoc hy l]
    cases l <;> rfl
/-! ### Bytes of numbers -/
theorem byteAt_toNat (n i : Nat) : (byteAt (n : Int) i).toNat = n / 256 ^ i % 256 := by
  unfold byteAt
  have := u8of_toNat ((n : Int) / ((256 ^ i : Nat) : Int))
  rw [← Int.natCast_ediv] at this ⊢
  omega
theorem be_one (k : Nat) (x : Int) : be (k + 1) x = byteAt x k :: be k x := rfl
theorem be_snoc : ∀ (k : Nat) (n : Nat), be (k + 1) (n : Int) = be k ((n / 256 : Nat) : Int) ++ [byteAt (n : Int) 0]
  | 0, n => rfl
  | k + 1, n => by
    rw [be_one, be_snoc k n, be_one, List.cons_append]
    congr 1
    refine UInt8.toNat_inj.1 ?_
    rw [byteAt_toNat, byteAt_toNat, Nat.div_div_eq_div_mul, Nat.pow_succ, Nat.mul_comm]
theorem num_cons (b : UInt8) (l : List UInt8) : numL (b :: l) = b.toNat * 256 ^ l.length + numL l := by
  have : ∀ (l : List UInt8) (a : Nat), l.foldl (fun n b => n * 256 + b.toNat) a = a * 256 ^ l.length + numL l := by
    intro l
    induction l with
    | nil => intro a; simp [numL]
    | cons x l ih =>
      intro a
      unfold numL
      rw [List.foldl_cons, List.foldl_cons, ih, ih (0 * 256 + x.toNat), List.length_cons, Nat.pow_succ, Nat.add_mul, Nat.mul_assoc, Nat.mul_comm 256, Nat.zero_mul, Nat.zero_add, Nat.add_assoc]
  unfold numL
  rw [List.foldl_cons, this, Nat.zero_mul, Nat.zero_add]
  rfl
/-- How many bytes a number's value has. -/
def kN (n : Nat) : Nat := if n < 128 then 1 else kN (n / 256) + 1
termination_by n
decreasing_by omega
theorem kN_small {n : Nat} (h : n < 128) : kN n = 1 := by unfold kN; rw [if_pos h]
theorem kN_big {n : Nat} (h : ¬ n < 128) : kN n = kN (n / 256) + 1 := by conv => lhs; unfold kN
                                                                         rw [if_neg h]
theorem kN_pos (n : Nat) : 1 ≤ kN n := by
  by_cases h : n < 128
  · rw [kN_small h]; exact Nat.le_refl 1
  · rw [kN_big h]; omega
theorem kN_le {n k : Nat} (hk : 1 ≤ k) : kN n ≤ k ↔ n < 128 * 256 ^ (k - 1) := by
  induction n using Nat.strongRecOn generalizing k with
  | ind n ih =>
    by_cases h : n < 128
    · rw [kN_small h]
      have : 1 ≤ 256 ^ (k - 1) := Nat.pow_pos (by decide)
      omega
    · rw [kN_big h]
      have hp := kN_pos (n / 256)
      by_cases h1 : k = 1
      · subst h1; rw [Nat.sub_self, Nat.pow_zero]; omega
      · obtain ⟨j, rfl⟩ : ∃ j, k = j + 2 := ⟨k - 2, by omega⟩
        have := ih (n / 256) (by omega) (k := j + 1) (by omega)
        rw [show j + 2 - 1 = j + 1 by omega, Nat.pow_succ]
        rw [show j + 1 - 1 = j by omega] at this
        omega
/-- A number's bytes, with a sign's room. -/
abbrev nb (n : Nat) : List UInt8 := be (kN n) (n : Int)
/-- A number's bytes, no nought ahead. -/
def mb (n : Nat) : List UInt8 := if h : n = 0 then [] else mb (n / 256) ++ [byteAt (n : Int) 0]
termination_by n
decreasing_by omega
theorem mb_zero : mb 0 = [] := by unfold mb; rfl
theorem mb_pos {n : Nat} (h : n ≠ 0) : mb n = mb (n / 256) ++ [byteAt (n : Int) 0] := by
  conv => lhs; unfold mb
  rw [dif_neg h]
theorem mb_nil {n : Nat} : mb n = [] ↔ n = 0 := by
  by_cases h : n = 0
  · simp [h, mb_zero]
  · rw [mb_pos h]; simp [h]
theorem nb_mb (n : Nat) : nb n = if mb n = [] ∨ 128 ≤ ((mb n).headD 0).toNat then 0 :: mb n else mb n := by
  induction n using Nat.strongRecOn with
  | ind n ih =>
    unfold nb
    by_cases h : n < 128
    · rw [kN_small h]
      by_cases h0 : n = 0
      · subst h0; rw [mb_zero]; rfl
      · have e : mb n = [byteAt (n : Int) 0] := by rw [mb_pos h0, show n / 256 = 0 by omega, mb_zero]; rfl
        have hb : (byteAt (n : Int) 0).toNat = n := by rw [byteAt_toNat]; omega
        rw [e, if_neg (by simp only [List.cons_ne_nil, false_or, List.headD_cons, hb]; omega)]
        rfl
    · rw [kN_big h, be_snoc]
      have ih := ih (n / 256) (by omega)
      unfold nb at ih
      rw [ih, mb_pos (n := n) (by omega)]
      by_cases h0 : n / 256 = 0
      · rw [h0, mb_zero]
        have hb : (byteAt (n : Int) 0).toNat = n := by rw [byteAt_toNat]; omega
        simp [hb]
        omega
      · have hm : mb (n / 256) ≠ [] := fun e => h0 (mb_nil.1 e)
        obtain ⟨x, r, hx⟩ : ∃ x r, mb (n / 256) = x :: r := List.exists_cons_of_ne_nil hm
        rw [hx]
        simp only [List.cons_append, List.headD_cons, List.cons_ne_nil, false_or]
        split <;> rfl

theorem mb_len : ∀ {k n : Nat}, n < 18446744073709551616 ^ k → (mb n).length ≤ 8 * k := by
  have key : ∀ (m n : Nat), n < 256 ^ m → (mb n).length ≤ m := by
    intro m
    induction m with
    | zero => intro n h; rw [Nat.pow_zero] at h; rw [mb_nil.2 (by omega)]; simp
    | succ m ih =>
      intro n h
      by_cases h0 : n = 0
      · rw [mb_nil.2 h0]; simp
      · rw [Nat.pow_succ] at h
        rw [mb_pos h0, List.length_append, List.length_singleton]
        have := ih (n / 256) (by omega)
        omega
  intro k n h
  exact key _ _ (by rw [Nat.pow_mul]; exact h)
/-! ### The machine's numbers -/
theorem tdiv_nat (a b : Nat) : ((a : Int)).tdiv (b : Int) = ((a / b : Nat) : Int) := (Int.ofNat_tdiv a b).symm
theorem tmod_nat (a b : Nat) : ((a : Int)).tmod (b : Int) = ((a % b : Nat) : Int) := (Int.ofNat_tmod a b).symm
theorem tdiv8 (a : Nat) : ((a : Int)).tdiv 8 = ((a / 8 : Nat) : Int) := tdiv_nat a 8
theorem tmod8 (a : Nat) : ((a : Int)).tmod 8 = ((a % 8 : Nat) : Int) := tmod_nat a 8
theorem wmul8 {a : Nat} (h : a ≤ 1000000000000000000) : IntKind.i64.wrap (8 * (a : Int)) = ((8 * a : Nat) : Int) := by rw [wrap_i64]; omega
theorem wsub1 {a : Nat} (h : a ≤ 9223372036854775807) : IntKind.i64.wrap ((a : Int) - 1) = (a : Int) - 1 := by rw [wrap_i64]; omega
theorem wsub {a b : Nat} (h : a ≤ 9223372036854775807) (h2 : b ≤ a) : IntKind.i64.wrap ((a : Int) - (b : Int)) = ((a - b : Nat) : Int) := by rw [wrap_i64]; omega
theorem fdiv_pow (x k : Nat) : ((x : Nat) : Int).fdiv ((2 : Int) ^ k) = ((x / 2 ^ k : Nat) : Int) := by
  rw [show ((2 : Int) ^ k) = ((2 ^ k : Nat) : Int) by rw [Int.natCast_pow]; rfl, Int.fdiv_eq_ediv_of_nonneg _ (Int.natCast_nonneg _), Int.natCast_ediv]
theorem pow8 (r : Nat) : 2 ^ (8 * r) = 256 ^ r := by rw [Nat.pow_mul]
/-- A byte of a limb. -/
theorem limb_byte {x r : Nat} (h : r < 8) : IntKind.u8.wrap (((x : Nat) : Int).fdiv ((2 : Int) ^ min (8 * r) 64)) = ((x / 256 ^ r % 256 : Nat) : Int) := by
  rw [show min (8 * r) 64 = 8 * r by omega, fdiv_pow, pow8, wrap_u8]
  rfl
theorem byteAt_lt (n i : Nat) : n / 256 ^ i % 256 < 256 := Nat.mod_lt _ (by decide)
theorem iv_byte (n i : Nat) : [IV.int .u8 ((n / 256 ^ i % 256 : Nat) : Int)] = u8s [byteAt (n : Int) i] := by
  rw [u8s_cons, byteAt_toNat]; rfl
theorem pow64 (k : Nat) : 18446744073709551616 ^ k = 256 ^ (8 * k) := by rw [Nat.pow_mul]
theorem cellI' {k : IntKind} {n : Int} : nthD (IV.int k n).cells 0 = .int k n := Eq.trans rfl rfl
theorem intI' {k : IntKind} {n : Int} : intOf (.int k n) = n := Eq.trans rfl rfl
end Go.Im

namespace Go.Im
open Go
set_option linter.unusedVariables false
set_option linter.unusedSimpArgs false
set_option linter.unnecessarySimpa false
set_option linter.unusedSimpArgs false

section
variable {P : Program} {H : Hint}
/-- A function whose answer is frozen, by one call. -/
theorem known_frz1 (hP : Fits P) {f : FuncId} {F : SpecF}
    (h : ∀ xs T v T1, (true, v, T1) ∈ F xs T → T = [] ∧ T1 = [] ∧ NoGd xs ∧ ∃ (spec : FuncId → Option SpecF) (ls : FuncId → Nat → Option LoopF), (∀ f F, spec f = some F → Known P H f F) ∧ LoopsOK P H (acall P H (ovrOf spec)) ls ∧
      ∃ n v0 T2 v1 fr, callK P H spec ls n f xs T (fun v T => some (v, T)) = some (v0, T2) ∧ frz T2 v0 = some (v1, fr) ∧ Wk v1 v) : Known P H f F :=
  known_frz hP fun xs T v T1 hm => by
    obtain ⟨h1, h2, h3, h4⟩ := h xs T v T1 hm
    refine ⟨h1, h2, [xs], by simp, Splits.self xs, fun ys hy => ?_⟩
    rw [List.mem_singleton] at hy
    subst hy
    exact ⟨h3, h4⟩
/-- A loop's contract where a test of the state holds; the test of one state. -/
def gF (t : List IV → List Blk → Bool) (e : Ex) (vs1 : List IV) (bx1 : List Blk) : LiveF := fun vs bx => [(t vs bx, e, vs1, bx1)]
noncomputable def atB (vs0 : List IV) (bx0 : List Blk) : List IV → List Blk → Bool := fun vs bx => @decide (vs = vs0 ∧ bx = bx0) (Classical.propDecidable _)
theorem at_t {vs : List IV} {bx : List Blk} : atB vs bx vs bx = true := @decide_eq_true _ (Classical.propDecidable _) ⟨rfl, rfl⟩
theorem at_eq {vs vs0 : List IV} {bx bx0 : List Blk} (h1 : vs = vs0) (h2 : bx = bx0) : atB vs0 bx0 vs bx = true := by subst h1; subst h2; exact at_t
theorem gF_mem {vs0 vs vs1 vs' : List IV} {bx0 bx bx1 bx' : List Blk} {e0 e : Ex} (h : (true, e, vs', bx') ∈ gF (atB vs0 bx0) e0 vs1 bx1 vs bx) : vs = vs0 ∧ bx = bx0 ∧ e = e0 ∧ vs' = vs1 ∧ bx' = bx1 := by
  simp only [gF, atB, List.mem_cons, List.not_mem_nil, or_false, Prod.mk.injEq, Bool.true_eq, decide_eq_true_eq] at h
  exact ⟨h.1.1, h.1.2, h.2.1, h.2.2.1, h.2.2.2⟩
/-- One loop's run, ahead of other loops' contracts. -/
theorem ltab_run {call : Nat → CallF} {f : FuncId} {q p : Nat} {vs0 vs1 : List IV} {bx0 bx1 : List Blk} {e : Ex} {l : List (FuncId × Nat × LoopF)} (hp : placesB P f = true)
    (h : Runs P H call p (H.kp f) (loopAt P f q) (stAt P H f vs0 bx0) e (stAt P H f vs1 bx1)) (hl : LoopsOK P H call (ltab l)) (hi : (itemAt P f q).isLoop = true) : LoopsOK P H call (ltab ((f, q, loopF P H f p (gF (atB vs0 bx0) e vs1 bx1)) :: l)) := by
  refine ltab_cons hp (loopF_ok (fun vs bx e vs' bx' hm => ?_) hi) hl
  obtain ⟨rfl, rfl, rfl, rfl, rfl⟩ := gF_mem hm
  exact h
/-- One loop within another one: the inner one's run and the round about it. -/
theorem inner_run {call : Nat → CallF} {f : FuncId} {q q' p : Nat} {vs0 vs1 : List IV} {bx0 bx1 : List Blk} {e : Ex} (hin : loopsOf (2 * q) (loopAt P f q) = [(q', itemAt P f q')]) (hi : (itemAt P f q').isLoop = true)
    (h : Runs P H call p (H.kp f) (loopAt P f q') (stAt P H f vs0 bx0) e (stAt P H f vs1 bx1)) : ItemsOK P H call (itOf P H call) (ltab [(f, q', loopF P H f p (gF (atB vs0 bx0) e vs1 bx1))] f) (H.kp f) (2 * q) (loopAt P f q) := by
  intro x hx F hF
  rw [hin, List.mem_singleton] at hx
  subst hx
  unfold ltab at hF
  simp only [Nat.beq_refl, Bool.and_self] at hF
  cases hF
  refine loopF_ok (fun vs bx e vs' bx' hm => ?_) hi
  obtain ⟨rfl, rfl, rfl, rfl, rfl⟩ := gF_mem hm
  exact h
theorem Runs.step_in {spec : FuncId → Option SpecF} {f : FuncId} {q q' p n : Nat} {vs0 vs1 : List IV} {bx0 bx1 : List Blk} {e0 e : Ex} {s s1 s' : St} (hp : placesB P f = true) (hin : loopsOf (2 * q) (loopAt P f q) = [(q', itemAt P f q')]) (hi : (itemAt P f q').isLoop = true)
    (hq : Runs P H (acall P H (ovrOf spec)) p (H.kp f) (loopAt P f q') (stAt P H f vs0 bx0) e0 (stAt P H f vs1 bx1))
    (h : roundK P H spec (ltab [(f, q', loopF P H f p (gF (atB vs0 bx0) e0 vs1 bx1))]) n p f q s = some (.normal, s1)) (hr : Runs P H (acall P H (ovrOf spec)) p (H.kp f) (loopAt P f q) s1 e s') : Runs P H (acall P H (ovrOf spec)) p (H.kp f) (loopAt P f q) s e s' :=
  Runs.step (ltab_run hp hq ltab_nil hi) (inner_run hin hi hq) h hr
theorem gF_off {p : Nat} {s : St} {e e0 : Ex} {s' : St} {f : FuncId} {p0 : Nat} {vs1 : List IV} {bx1 : List Blk} (h : (true, e, s') ∈ loopF P H f p0 (gF (fun _ _ => false) e0 vs1 bx1) p s) : False := by
  unfold loopF gF at h
  split at h <;> simp at h
/-- The last round, where the loop within is not come to. -/
theorem Runs.last_off {spec : FuncId → Option SpecF} {f : FuncId} {q q' p n : Nat} {vs1 : List IV} {bx1 : List Blk} {e0 e : Ex} {s s' : St} (hp : placesB P f = true) (hin : loopsOf (2 * q) (loopAt P f q) = [(q', itemAt P f q')]) (he : e ≠ .normal)
    (h : roundK P H spec (ltab [(f, q', loopF P H f p (gF (fun _ _ => false) e0 vs1 bx1))]) n p f q s = some (e, s')) : Runs P H (acall P H (ovrOf spec)) p (H.kp f) (loopAt P f q) s e s' :=
  Runs.last (ltab_cons hp (fun _ _ _ _ h => (gF_off h).elim) ltab_nil) (fun x hx F hF => by
    rw [hin, List.mem_singleton] at hx
    subst hx
    unfold ltab at hF
    simp only [Nat.beq_refl, Bool.and_self] at hF
    cases hF
    exact fun _ _ _ _ h => (gF_off h).elim) he h
theorem ltab_no {call : Nat → CallF} {f : FuncId} {q : Nat} {l : List (FuncId × Nat × LoopF)} (hp : placesB P f = true) (hl : LoopsOK P H call (ltab l)) : LoopsOK P H call (ltab ((f, q, fun _ _ => []) :: l)) :=
  ltab_cons hp (fun p s e s' h => by cases h) hl
end
end Go.Im

namespace Go.Im
open Go
set_option linter.unusedVariables false
set_option linter.unusedSimpArgs false
set_option linter.unnecessarySimpa false
set_option linter.unusedSimpArgs false
set_option maxRecDepth 20000

/-! ### Rows of limbs, one of them changed -/
theorem valL_set : ∀ {l : List Nat} {j : Nat} (h : j < l.length) (d : Nat), valL (l.set j (l[j] + d)) = valL l + 18446744073709551616 ^ j * d
  | x :: l, 0, h, d => by
    show x + d + 18446744073709551616 * valL l = x + 18446744073709551616 * valL l + 18446744073709551616 ^ 0 * d
    rw [Nat.pow_zero]; omega
  | x :: l, j + 1, h, d => by
    have ih := valL_set (l := l) (j := j) (by simpa using h) d
    show x + 18446744073709551616 * valL (l.set j (l[j]'(by simpa using h) + d)) = x + 18446744073709551616 * valL l + 18446744073709551616 ^ (j + 1) * d
    rw [ih, Nat.mul_add, Nat.pow_succ, Nat.mul_comm (18446744073709551616 ^ j) 18446744073709551616, Nat.mul_assoc]
    omega
theorem okL_set {l : List Nat} (h : okL l) {j x : Nat} (hx : x < 18446744073709551616) : okL (l.set j x) := fun y hy => (List.mem_or_eq_of_mem_set hy).elim (h y) (fun e => e ▸ hx)
theorem valL_rep (n : Nat) : valL (List.replicate n 0) = 0 := by
  induction n with
  | zero => rfl
  | succ n ih => rw [List.replicate_succ]; show 0 + 18446744073709551616 * valL (List.replicate n 0) = 0; rw [ih]
theorem valL_zero {l : List Nat} : valL (l ++ [0]) = valL l := by rw [valL_app]; show _ + _ * (0 + 18446744073709551616 * 0) = _; omega
/-- A row whose last limb is needed has no noughts at its end. -/
theorem limbs_full {l : List Nat} (ho : okL l) (h : l.length = 0 ∨ 18446744073709551616 ^ (l.length - 1) ≤ valL l) : l = limbs (valL l) := by
  rw [← trimL_eq ho]
  rcases List.eq_nil_or_concat l with rfl | ⟨r, y, rfl⟩
  · rfl
  · by_cases hy : y = 0
    · exfalso
      subst hy
      rw [List.concat_eq_append] at h ho
      rw [List.length_append, List.length_singleton, valL_zero] at h
      have := valL_lt (l := r) (fun x hx => ho x (List.mem_append_left _ hx))
      rw [Nat.add_sub_cancel] at h
      omega
    · rw [List.concat_eq_append]; exact (trimL_snoc hy r).symm

theorem wadd' {a b : Nat} (h : a + b < 18446744073709551616) : IntKind.u64.wrap ((a : Int) + (b : Int)) = ((a + b : Nat) : Int) := by rw [wrap_u64]; omega
theorem or_comm64 (a b : Int) : ibits BinOp.or .u64 a b = ibits BinOp.or .u64 b a := by simp only [ibits]; rw [BitVec.or_comm]
theorem u8s_at {l : List UInt8} {i : Nat} (h : i < l.length) : nthD (u8s l) i = .int .u8 (l[i].toNat : Int) := by rw [u8s, nthD_mapf (by simpa using h)]
theorem limbs_len {n k : Nat} (h : n < 18446744073709551616 ^ k) : (limbs n).length ≤ k := by
  induction k generalizing n with
  | zero => rw [Nat.pow_zero] at h; rw [show n = 0 by omega, limbs_zero]; simp
  | succ k ih =>
    by_cases h0 : n = 0
    · rw [h0, limbs_zero]; simp
    · rw [Nat.pow_succ] at h
      rw [limbs_pos h0, List.length_cons]
      have := ih (n := n / 18446744073709551616) (by omega)
      omega
/-- How many of a row are left, without the noughts at its end. -/
theorem trimL_take : ∀ l : List Nat, trimL l = l.take (trimL l).length
  | [] => rfl
  | x :: l => by
    have ih := trimL_take l
    show (match trimL l with | [] => if x = 0 then [] else [x] | y :: r => x :: y :: r) = _
    have e : trimL (x :: l) = (match trimL l with | [] => if x = 0 then [] else [x] | y :: r => x :: y :: r) := rfl
    rw [e]
    cases h : trimL l with
    | nil =>
      by_cases hx : x = 0
      · simp [hx]
      · simp [hx]
    | cons y r =>
      rw [h] at ih
      simp only [List.length_cons] at ih ⊢
      rw [List.take_succ_cons, ← ih]
theorem trimL_le (l : List Nat) : (trimL l).length ≤ l.length := by
  rw [trimL_take, List.length_take]
  omega
/-- The last one is no nought. -/
theorem trimL_last : ∀ (l : List Nat) (i : Nat), (trimL l).length = i + 1 → ∀ x, l[i]? = some x → x ≠ 0
  | [], i, h, x, hx => by simp at hx
  | y :: l, i, h, x, hx => by
    have e : trimL (y :: l) = (match trimL l with | [] => if y = 0 then [] else [y] | z :: r => y :: z :: r) := rfl
    have ih := trimL_last l
    cases hl : trimL l with
    | nil =>
      rw [hl] at e
      by_cases hy : y = 0
      · rw [if_pos hy] at e; rw [e] at h; simp at h
      · rw [if_neg hy] at e
        rw [e] at h
        obtain rfl : i = 0 := by simpa using h.symm
        simp only [List.getElem?_cons_zero, Option.some.injEq] at hx
        rw [← hx]; exact hy
    | cons z r =>
      rw [hl] at e ih
      simp only at e
      rw [e] at h
      obtain ⟨j, rfl⟩ : ∃ j, i = j + 1 := ⟨i - 1, by simp at h; omega⟩
      exact ih j (by simpa using h) x (by simpa using hx)
theorem trimL_above (l : List Nat) (i : Nat) (h1 : (trimL l).length ≤ i) (h2 : i < l.length) : l[i] = 0 := by
  induction l generalizing i with
  | nil => simp at h2
  | cons x l ih =>
    have e : trimL (x :: l) = (match trimL l with | [] => if x = 0 then [] else [x] | y :: r => x :: y :: r) := rfl
    cases i with
    | zero =>
      cases hl : trimL l with
      | nil =>
        rw [hl] at e
        by_cases hx : x = 0
        · exact hx
        · simp only [hx, if_false] at e; rw [e] at h1; simp at h1
      | cons y r => rw [hl] at e; simp only at e; rw [e] at h1; simp at h1
    | succ i =>
      refine ih i ?_ (by simpa using h2)
      cases hl : trimL l with
      | nil => simp
      | cons y r =>
        rw [hl] at e
        simp only at e
        rw [e] at h1
        simpa using h1
end Go.Im
