/- What the reference's Print answers. It bears no condition. -/
import Derived.Test.YthnleapnhkkeoaaDoorSpC
-- BYTES bytsD
namespace Go.Proofs.YthnleapnhkkeoaaDoor
open Go Go.Im
set_option linter.unusedVariables false
set_option linter.unusedSimpArgs false

def digF (k : Nat) : SpecF := fun xs T => match xs, T with
  | [.int .u64 n], [] => [(decide (0 ≤ n ∧ n < ((10 ^ k : Nat) : Int)), .str (decL n.toNat), [])]
  | _, _ => []
abbrev tabR (c : Int → Bool) (t : Int → List UInt8) : FuncId → Option SpecF := tab [(42, fun xs T => match xs, T with
  | [.int .u64 n], [] => [(c n, .str (t n), [])]
  | _, _ => [])]
theorem dig_tree (x : Int) (c : Int → Bool) (t : Int → List UInt8) : bodyK Tryd.prog hint (tabR c t) (fun _ _ => none) 30 42 [.int .u64 x] [] (fun v T => some (v, T)) =
  (bif decide (x < (10 : Int)) then
     some
       (IV.str [UInt8.ofNat (intOf (IV.int IntKind.u8 (IntKind.u8.wrap (IntKind.u64.wrap ((48 : Int) + x))))).toNat], [])
   else
     bif c (IntKind.u64.wrap (x.tdiv (10 : Int))) then
       bif c (x.tmod (10 : Int)) then
         bif
             decide
               ((↑((t (IntKind.u64.wrap (x.tdiv (10 : Int)))).length + (t (x.tmod (10 : Int))).length) : Int) >
                 IntKind.i64.max) then
           none
         else some (IV.str (t (IntKind.u64.wrap (x.tdiv (10 : Int))) ++ t (x.tmod (10 : Int))), [])
       else none
     else none) := by kernel_rfl
theorem len_fits {a : Nat} (h : a ≤ 1000000) : decide (((a : Nat) : Int) > IntKind.i64.max) = false := by
  have := Go.Im.range_i64.2
  rw [this]
  simp
  omega
theorem digs_known : ∀ k, k ≤ 12 → Known Tryd.prog hint 42 (digF k)
  | 0, _ => by
    refine known_rec fits ?_
    intro xs T v T1 h
    unfold digF at h
    split at h
    · rename_i n
      simp only [List.mem_cons, List.not_mem_nil, or_false, Prod.mk.injEq, Bool.true_eq, decide_eq_true_eq] at h
      obtain ⟨⟨h1, h2⟩, rfl, rfl⟩ := h
      have : n = 0 := by omega
      subst this
      refine ⟨tab [], _, tab_nil, loops_none, 30, ?_⟩
      kernel_rfl
    · cases h
  | k + 1, hk => by
    refine known_rec fits ?_
    intro xs T v T1 h
    unfold digF at h
    split at h
    · rename_i n
      simp only [List.mem_cons, List.not_mem_nil, or_false, Prod.mk.injEq, Bool.true_eq, decide_eq_true_eq] at h
      obtain ⟨⟨h1, h2⟩, rfl, rfl⟩ := h
      obtain ⟨m, rfl⟩ : ∃ m : Nat, n = m := ⟨n.toNat, by omega⟩
      have h2 : m < 10 ^ (k + 1) := by omega
      have hp : 10 ^ (k + 1) = 10 ^ k * 10 := rfl
      have hb : 10 ^ k ≤ 10 ^ 12 := Nat.pow_le_pow_right (by decide) (by omega)
      refine ⟨tabR (fun n => decide (0 ≤ n ∧ n < ((10 ^ k : Nat) : Int))) (fun n => decL n.toNat), _, tab_cons (digs_known k (by omega)) tab_nil, loops_none, 30, (dig_tree _ _ _).trans ?_⟩
      rw [Int.toNat_natCast]
      by_cases h : m < 10
      · have g : decide ((m : Int) < 10) = true := by simp; omega
        rw [g, cond_true, decL_lt h, n_48, n_u64, n_u8, intOf_int, Int.toNat_natCast]
        have : (48 + m) % 18446744073709551616 % 256 = 48 + m := by omega
        rw [this]
        rfl
      · have g : decide ((m : Int) < 10) = false := by simp; omega
        have e1 : IntKind.u64.wrap ((m : Int).tdiv 10) = ((m / 10 : Nat) : Int) := by rw [n_div10, n_u64, Nat.mod_eq_of_lt (by omega)]
        have hk1 : 10 ≤ 10 ^ k := by
          cases k with
          | zero => omega
          | succ k =>
            have h0 : 0 < 10 ^ k := Nat.pow_pos (by decide)
            have : 10 ^ (k + 1) = 10 ^ k * 10 := rfl
            omega
        have g1 : decide ((0 : Int) ≤ ((m / 10 : Nat) : Int) ∧ ((m / 10 : Nat) : Int) < ((10 ^ k : Nat) : Int)) = true := by simp only [decide_eq_true_eq]; omega
        have g2 : decide ((0 : Int) ≤ ((m % 10 : Nat) : Int) ∧ ((m % 10 : Nat) : Int) < ((10 ^ k : Nat) : Int)) = true := by simp only [decide_eq_true_eq]; omega
        rw [g, cond_false, e1, n_mod10]
        simp only [g1, g2, cond_true, Int.toNat_natCast]
        have l1 := decL_len k (m / 10) (by omega)
        have l2 := decL_len 0 (m % 10) (by omega)
        rw [len_fits (by omega), cond_false, decL_ge (show 10 ≤ m by omega), decL_lt (show m % 10 < 10 by omega)]
    · cases h

/-! ### Print -/
def lftI (l i : Nat) : Nat := l * 10 ^ i % 4294967296
def dgs (l i : Nat) : List UInt8 := (List.range i).map fun j => dig (l * 10 ^ (j + 1) / 4294967296 % 10)
theorem dgs_ten (l : Nat) : dgs l 10 = tenL (prN l) := by
  have e : ∀ a b : Nat, b = 10 ^ a → ∀ c, l * (c * b) / 4294967296 / b = l * c / 4294967296 := by
    intro a b hb c
    have h0 : 0 < b := by rw [hb]; exact Nat.pow_pos (by decide)
    rw [Nat.div_div_eq_div_mul, ← Nat.mul_assoc, Nat.mul_div_mul_right _ _ h0]
  show [dig (l * 10 ^ 1 / 4294967296 % 10), dig (l * 10 ^ 2 / 4294967296 % 10), dig (l * 10 ^ 3 / 4294967296 % 10), dig (l * 10 ^ 4 / 4294967296 % 10), dig (l * 10 ^ 5 / 4294967296 % 10), dig (l * 10 ^ 6 / 4294967296 % 10), dig (l * 10 ^ 7 / 4294967296 % 10), dig (l * 10 ^ 8 / 4294967296 % 10), dig (l * 10 ^ 9 / 4294967296 % 10), dig (l * 10 ^ 10 / 4294967296 % 10)] = _
  simp only [tenL, prN]
  have e1 : l * 10000000000 / 4294967296 / 1000000000 = l * 10 ^ 1 / 4294967296 := e 9 1000000000 (by decide) (10 ^ 1)
  have e2 : l * 10000000000 / 4294967296 / 100000000 = l * 10 ^ 2 / 4294967296 := e 8 100000000 (by decide) (10 ^ 2)
  have e3 : l * 10000000000 / 4294967296 / 10000000 = l * 10 ^ 3 / 4294967296 := e 7 10000000 (by decide) (10 ^ 3)
  have e4 : l * 10000000000 / 4294967296 / 1000000 = l * 10 ^ 4 / 4294967296 := e 6 1000000 (by decide) (10 ^ 4)
  have e5 : l * 10000000000 / 4294967296 / 100000 = l * 10 ^ 5 / 4294967296 := e 5 100000 (by decide) (10 ^ 5)
  have e6 : l * 10000000000 / 4294967296 / 10000 = l * 10 ^ 6 / 4294967296 := e 4 10000 (by decide) (10 ^ 6)
  have e7 : l * 10000000000 / 4294967296 / 1000 = l * 10 ^ 7 / 4294967296 := e 3 1000 (by decide) (10 ^ 7)
  have e8 : l * 10000000000 / 4294967296 / 100 = l * 10 ^ 8 / 4294967296 := e 2 100 (by decide) (10 ^ 8)
  have e9 : l * 10000000000 / 4294967296 / 10 = l * 10 ^ 9 / 4294967296 := e 1 10 (by decide) (10 ^ 9)
  have e10 : l * 10000000000 / 4294967296 / 1 = l * 10 ^ 10 / 4294967296 := e 0 1 (by decide) (10 ^ 10)
  rw [e1, e2, e3, e4, e5, e6, e7, e8, e9, e10]
theorem rp_round (t0 : Int) (r s : List UInt8) (l i : Int) (c : Int → Bool) (t : Int → List UInt8) : Rd (tabR c t) 19 122 (Sx 19 [.int .u64 t0, .str r, .str s, .int .u64 l, .int .i64 i] []) =
  (bif decide (i < (10 : Int)) then
     bif c (IntKind.u64.wrap ((IntKind.u64.wrap ((10 : Int) * l)).tdiv (4294967296 : Int))) then
       bif
           decide
             ((↑(s.length + (t (IntKind.u64.wrap ((IntKind.u64.wrap ((10 : Int) * l)).tdiv (4294967296 : Int)))).length) :
                 Int) >
               IntKind.i64.max) then
         none
       else
         some
           (Ex.normal,
             Sx (19 : Nat)
               [IV.int IntKind.u64 t0, IV.str r,
                 IV.str (s ++ t (IntKind.u64.wrap ((IntKind.u64.wrap ((10 : Int) * l)).tdiv (4294967296 : Int)))),
                 IV.int IntKind.u64 ((IntKind.u64.wrap ((10 : Int) * l)).tmod (4294967296 : Int)),
                 IV.int IntKind.i64 (IntKind.i64.wrap (i + (1 : Int)))]
               [])
     else none
   else
     some
       (Ex.exit (nat_lit 0),
         Sx (19 : Nat) [IV.int IntKind.u64 t0, IV.str r, IV.str s, IV.int IntKind.u64 l, IV.int IntKind.i64 i] [])) := by kernel_rfl
def rpG : LiveF := fun vs bx => match vs, bx with
  | [.int .u64 x, .str r, .str s, .int .u64 l, .int .i64 i], [] => [(decide (i = 0 ∧ 0 ≤ l ∧ l < 4294967296 ∧ s.length ≤ 1000), .exit 0, [.int .u64 x, .str r, .str (s ++ dgs l.toNat 10), .int .u64 (lftI l.toNat 10 : Nat), .int .i64 10], [])]
  | _, _ => []
noncomputable abbrev rpLs : FuncId → Nat → Option LoopF := ltab [(19, 122, loopF Tryd.prog hint 19 0 rpG)]
def bytsD0 : List UInt8 := [46]
theorem rp_call (x : Int) (c : Int → Bool) (t : Int → List UInt8) : callK Tryd.prog hint (tabR c t) rpLs 30 19 [.int .u64 x] [] (fun v T => some (v, T)) =
  (bif c (IntKind.u64.wrap (x.tdiv (4294967296 : Int))) then
     bif decide ((↑((t (IntKind.u64.wrap (x.tdiv (4294967296 : Int)))).length + (1 : Nat)) : Int) > IntKind.i64.max) then
       none
     else
       bif
           decide
             ((0 : Int) = (0 : Int) ∧
               (0 : Int) ≤ x.tmod (4294967296 : Int) ∧
                 x.tmod (4294967296 : Int) < (4294967296 : Int) ∧
                   (t (IntKind.u64.wrap (x.tdiv (4294967296 : Int))) ++ bytsD0).length ≤
                     (1000 : Nat)) then
         some
           (IV.str
               (t (IntKind.u64.wrap (x.tdiv (4294967296 : Int))) ++ bytsD0 ++
                 dgs (x.tmod (4294967296 : Int)).toNat (10 : Nat)),
             [])
       else none
   else none) := by kernel_rfl
theorem next_dig (A : Nat) : 10 * (A % 4294967296) / 4294967296 = 10 * A / 4294967296 % 10 := by
  have h1 : A % 4294967296 < 4294967296 := Nat.mod_lt _ (by decide)
  have h2 : 10 * A = 4294967296 * (10 * (A / 4294967296)) + 10 * (A % 4294967296) := by omega
  rw [h2, Nat.mul_add_div (by decide)]
  omega
noncomputable abbrev tabR12 : FuncId → Option SpecF := tabR (fun n => decide (0 ≤ n ∧ n < ((10 ^ 12 : Nat) : Int))) (fun n => decL n.toNat)
theorem rp_step (x : Int) (r s : List UInt8) (m : Nat) (h3 : s.length ≤ 1000) {i : Nat} (hi : i < 10) :
    Rd tabR12 19 122 (Sx 19 [.int .u64 x, .str r, .str (s ++ dgs m i), .int .u64 (lftI m i : Nat), .int .i64 (i : Nat)] []) = some (.normal, Sx 19 [.int .u64 x, .str r, .str (s ++ dgs m (i + 1)), .int .u64 (lftI m (i + 1) : Nat), .int .i64 ((i + 1 : Nat) : Int)] []) := by
  refine (rp_round _ _ _ _ _ _ _).trans ?_
  have hl : lftI m i < 4294967296 := Nat.mod_lt _ (by decide)
  have g0 : decide ((i : Int) < 10) = true := by simp; omega
  have m10 : (10 : Int) * ((lftI m i : Nat) : Int) = ((10 * lftI m i : Nat) : Int) := by omega
  have e1 : IntKind.u64.wrap ((10 : Int) * ((lftI m i : Nat) : Int)) = ((10 * lftI m i : Nat) : Int) := by rw [m10, n_u64, Nat.mod_eq_of_lt (by omega)]
  have d1 : ((10 * lftI m i : Nat) : Int).tdiv 4294967296 = ((10 * lftI m i / 4294967296 : Nat) : Int) := rfl
  have d2 : ((10 * lftI m i : Nat) : Int).tmod 4294967296 = ((10 * lftI m i % 4294967296 : Nat) : Int) := rfl
  have e2 : IntKind.u64.wrap ((10 * lftI m i / 4294967296 : Nat) : Int) = ((10 * lftI m i / 4294967296 : Nat) : Int) := by rw [n_u64, Nat.mod_eq_of_lt (by omega)]
  have e3 : IntKind.i64.wrap ((i : Int) + 1) = ((i + 1 : Nat) : Int) := by rw [wrap_i64]; omega
  have hd : 10 * lftI m i / 4294967296 < 10 := by omega
  have g1 : decide ((0 : Int) ≤ ((10 * lftI m i / 4294967296 : Nat) : Int) ∧ ((10 * lftI m i / 4294967296 : Nat) : Int) < ((10 ^ 12 : Nat) : Int)) = true := by
    simp only [decide_eq_true_eq, Nat.reducePow]; omega
  have hp : m * 10 ^ (i + 1) = 10 * (m * 10 ^ i) := by rw [Nat.pow_succ, ← Nat.mul_assoc, Nat.mul_comm]
  have f1 : 10 * lftI m i / 4294967296 = m * 10 ^ (i + 1) / 4294967296 % 10 := by rw [hp, lftI, next_dig]
  have f2 : 10 * lftI m i % 4294967296 = lftI m (i + 1) := by rw [lftI, lftI, hp]; omega
  have hdl : (dgs m i).length = i := by simp [dgs]
  have f3 : s ++ dgs m (i + 1) = s ++ dgs m i ++ [dig (m * 10 ^ (i + 1) / 4294967296 % 10)] := by simp [dgs, List.range_succ]
  rw [g0, cond_true, e1, d1, d2, e2, e3]
  simp only [g1, cond_true, Int.toNat_natCast]
  simp only [decL_lt hd]
  rw [len_fits (by simp [hdl]; omega), cond_false, f1, f2, f3]
theorem rp_end (x : Int) (r s : List UInt8) (m : Nat) : Rd tabR12 19 122 (Sx 19 [.int .u64 x, .str r, .str (s ++ dgs m 10), .int .u64 (lftI m 10 : Nat), .int .i64 (10 : Nat)] []) = some (.exit 0, Sx 19 [.int .u64 x, .str r, .str (s ++ dgs m 10), .int .u64 (lftI m 10 : Nat), .int .i64 (10 : Nat)] []) := by
  refine (rp_round _ _ _ _ _ _ _).trans ?_
  have g0 : decide (((10 : Nat) : Int) < 10) = false := by decide
  rw [g0, cond_false]
theorem lft0 {m : Nat} (h : (m : Int) < 4294967296) : lftI m 0 = m := by simp only [lftI, Nat.pow_zero, Nat.mul_one]; omega
theorem rp_runs (x : Int) (r s : List UInt8) (m : Nat) (h2 : (m : Int) < 4294967296) (h3 : s.length ≤ 1000) : Runs Tryd.prog hint (acall Tryd.prog hint (ovrOf tabR12)) 0 (hint.kp 19) (loopAt Tryd.prog 19 122) (Sx 19 [.int .u64 x, .str r, .str s, .int .u64 m, .int .i64 0] []) (.exit 0) (Sx 19 [.int .u64 x, .str r, .str (s ++ dgs m 10), .int .u64 (lftI m 10 : Nat), .int .i64 10] []) := by
  have hin := inner_of (P := Tryd.prog) (H := hint) (call := acall Tryd.prog hint (ovrOf tabR12)) (f := 19) (q := 122) (ls := fun _ _ => none) (by kernel_rfl)
  have := runs_up (X := Unit) (S := fun i _ => Sx 19 [.int .u64 x, .str r, .str (s ++ dgs m i), .int .u64 (lftI m i : Nat), .int .i64 (i : Nat)] []) (N := 10) (g := fun _ x => x) (e := .exit 0)
      (E := fun _ => Sx 19 [.int .u64 x, .str r, .str (s ++ dgs m 10), .int .u64 (lftI m 10 : Nat), .int .i64 (10 : Nat)] []) loops_none hin (by simp) (fun i _ hi => rp_step x r s m h3 hi) (fun _ => rp_end x r s m) 10 0 () rfl
  have e1 : s ++ dgs m 0 = s := by simp [dgs]
  have e2 : ((0 : Nat) : Int) = 0 := rfl
  have e3 : ((10 : Nat) : Int) = 10 := rfl
  rw [lft0 h2, e1, e2, e3] at this
  exact this
theorem rp_loop : LoopOK Tryd.prog hint (acall Tryd.prog hint (ovrOf tabR12)) (itOf Tryd.prog hint (acall Tryd.prog hint (ovrOf tabR12))) (hint.kp 19) (itemAt Tryd.prog 19 122) (loopF Tryd.prog hint 19 0 rpG) := by
  refine loopF_ok fun vs bx e vs' bx' h => ?_
  unfold rpG at h
  split at h
  · rename_i x r s l i
    simp only [List.mem_cons, List.not_mem_nil, or_false, Prod.mk.injEq, Bool.true_eq, decide_eq_true_eq] at h
    obtain ⟨⟨rfl, h1, h2, h3⟩, rfl, rfl, rfl⟩ := h
    obtain ⟨m, rfl⟩ : ∃ m : Nat, l = m := ⟨l.toNat, by omega⟩
    have := rp_runs x r s m h2 h3
    exact this
  · cases h
theorem rpLs_ok : LoopsOK Tryd.prog hint (acall Tryd.prog hint (ovrOf tabR12)) rpLs := ltab_cons (by kernel_rfl) rp_loop ltab_nil
theorem rprint_known : Known Tryd.prog hint 19 printF := by
  refine known_of fits (spec := tabR12) (tab_cons (digs_known 12 (by omega)) tab_nil) rpLs_ok ?_
  intro xs T v T1 h
  unfold printF at h
  split at h
  · rename_i x
    simp only [List.mem_cons, List.not_mem_nil, or_false, Prod.mk.injEq, Bool.true_eq, decide_eq_true_eq] at h
    obtain ⟨⟨h1, h2⟩, rfl, rfl⟩ := h
    obtain ⟨m, rfl⟩ : ∃ m : Nat, x = m := ⟨x.toNat, by omega⟩
    refine ⟨30, (rp_call _ _ _).trans ?_⟩
    have d1 : (m : Int).tdiv 4294967296 = ((m / 4294967296 : Nat) : Int) := rfl
    have d2 : (m : Int).tmod 4294967296 = ((m % 4294967296 : Nat) : Int) := rfl
    have e2 : IntKind.u64.wrap ((m / 4294967296 : Nat) : Int) = ((m / 4294967296 : Nat) : Int) := by rw [n_u64, Nat.mod_eq_of_lt (by omega)]
    have g1 : decide ((0 : Int) ≤ ((m / 4294967296 : Nat) : Int) ∧ ((m / 4294967296 : Nat) : Int) < ((10 ^ 12 : Nat) : Int)) = true := by
      simp only [decide_eq_true_eq, Nat.reducePow]; omega
    have hl := decL_len 9 (m / 4294967296) (by omega)
    rw [d1, d2, e2]
    rw [g1, cond_true]
    have g2 : decide ((0 : Int) = 0 ∧ (0 : Int) ≤ ((m % 4294967296 : Nat) : Int) ∧ ((m % 4294967296 : Nat) : Int) < 4294967296 ∧ (decL (m / 4294967296) ++ bytsD0).length ≤ 1000) = true := by
      have : bytsD0.length = 1 := rfl
      rw [decide_eq_true_eq, List.length_append, this]
      exact ⟨rfl, by omega, by omega, by omega⟩
    show (bif decide (((((decL (m / 4294967296)).length + 1 : Nat)) : Int) > IntKind.i64.max) then none
      else bif decide ((0 : Int) = 0 ∧ (0 : Int) ≤ ((m % 4294967296 : Nat) : Int) ∧ ((m % 4294967296 : Nat) : Int) < 4294967296 ∧ (decL (m / 4294967296) ++ bytsD0).length ≤ 1000) then
        some (IV.str (decL (m / 4294967296) ++ bytsD0 ++ dgs (m % 4294967296) 10), ([] : List Blk)) else none) = some (IV.str (printL m), [])
    rw [len_fits (by omega), cond_false, g2, cond_true, dgs_ten]
    have hb : bytsD0 = [46] := rfl
    rw [hb]
    rfl
  · cases h
end Go.Proofs.YthnleapnhkkeoaaDoor
