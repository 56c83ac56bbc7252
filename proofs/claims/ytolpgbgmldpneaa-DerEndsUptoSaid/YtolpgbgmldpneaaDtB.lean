/- Values are read: a length, what is proved. It bears no condition. -/
import Derived.Test.YtolpgbgmldpneaaDtA
namespace Go.Proofs.Ytolpgbgmldpneaa
open Go Go.Im
set_option linter.unusedVariables false
set_option linter.unusedSimpArgs false
set_option maxRecDepth 20000
noncomputable section

theorem or_i64 {a b : Nat} {k : Nat} (hb : b < 2 ^ k) (h : a * 2 ^ k + b < 9223372036854775808) : ibits .or .i64 ((a * 2 ^ k : Nat) : Int) ((b : Nat) : Int) = ((a * 2 ^ k + b : Nat) : Int) := by
  have h1 : (BitVec.ofInt IntKind.i64.bits ((a * 2 ^ k : Nat) : Int)).toNat = a * 2 ^ k := by
    simp only [IntKind.bits, BitVec.toNat_ofInt]; omega
  have h2 : (BitVec.ofInt IntKind.i64.bits ((b : Nat) : Int)).toNat = b := by
    simp only [IntKind.bits, BitVec.toNat_ofInt]; omega
  simp only [ibits]
  rw [BitVec.toNat_or, h1, h2, wrap_i64, Nat.mul_comm, ← Nat.two_pow_add_eq_or_of_lt hb]
  rw [Nat.mul_comm] at h
  omega
theorem and127 : ∀ x : Fin 256, ibits .and .i64 ((x.val : Nat) : Int) 127 = ((x.val % 128 : Nat) : Int) := by decide +kernel

/-! ### A length, plainly -/
structure Szr where
  ok : Bool
  n : Nat
  a : Nat
  fa : Nat
  fc : Int
def szD (L e bg n a : Nat) : Szr := if n + a > e ∧ e < L then ⟨false, 0, a, bg, 71⟩ else if n + a > L then ⟨false, 0, a, L, 72⟩ else if n + a > e then ⟨false, 0, a, bg, 71⟩ else ⟨true, n, a, 0, 0⟩
def szM (b : List UInt8) (e bg : Nat) : Nat → Nat → Nat → Szr
  | 0, n, a => szD b.length e bg n a
  | k + 1, n, a => if h : a < b.length then
      if n * 256 + b[a].toNat = 0 then ⟨false, 0, a + 1, bg, 71⟩ else
      if 0 < k then szM b e bg k (n * 256 + b[a].toNat) (a + 1) else
      if n * 256 + b[a].toNat < 128 then ⟨false, 0, a + 1, bg, 71⟩ else szD b.length e bg (n * 256 + b[a].toNat) (a + 1)
    else ⟨false, 0, a, b.length, 72⟩
def szF (b : List UInt8) (e a : Nat) : Szr := if h : a < b.length then
    if b[a].toNat < 128 then szD b.length e a b[a].toNat (a + 1) else
    if b[a].toNat % 128 = 0 ∨ b[a].toNat % 128 > 4 then ⟨false, 0, a + 1, a, 71⟩ else szM b e a (b[a].toNat % 128) 0 (a + 1)
  else ⟨false, 0, a, b.length, 72⟩

/-! ### The machine's tests -/
theorem gt_sub {n e a : Nat} (he : e ≤ 200000000) (ha : a ≤ 200000000) : decide ((n : Int) > IntKind.i64.wrap ((e : Int) - (a : Int))) = decide (n + a > e) := by
  have : IntKind.i64.wrap ((e : Int) - (a : Int)) = (e : Int) - (a : Int) := by rw [wrap_i64]; omega
  rw [this]
  exact decide_eq_decide.2 ⟨fun h => by omega, fun h => by omega⟩
def EndS (s : St) (v4 v5 : IV) (bx : List Blk) : Prop := ∃ x0 x1 x2 x3 rest, s.tm = x0 :: x1 :: x2 :: x3 :: v4 :: v5 :: rest ∧ s.bx = bx
theorem innerL : ItemsOK Try.prog hint (acall Try.prog hint (ovrOf fun _ => none)) (itOf Try.prog hint (acall Try.prog hint (ovrOf fun _ => none))) ((fun _ _ => none : FuncId → Nat → Option LoopF) 51) (hint.kp 51) (2 * 3) (loopAt Try.prog 51 (labKey 3 1)) := fun x hx F hF => by cases hF
theorem more_runs {nb : Option Bool} {cb : Bool} {b : List UInt8} {c : Int} {e bg : Nat} (hL : b.length ≤ 100000000) (he : e ≤ 100000000) : ∀ (k n a : Nat), n < 256 ^ (4 - (k + 1)) → k < 4 → a ≤ b.length + 4 →
    ∃ s', Goes Try.prog hint (acall Try.prog hint (ovrOf fun _ => none)) 1 (hint.kp 51) 1 (loopAt Try.prog 51 (labKey 3 1)) (Sx 51 (szV e n ((k + 1 : Nat) : Int) bg) (rdB nb cb 1 (u8s b) a c 0 0)) .ret s' ∧
      EndS s' (.int .i64 (szM b e bg (k + 1) n a).n) (.bool (szM b e bg (k + 1) n a).ok) (rdB nb cb 1 (u8s b) (szM b e bg (k + 1) n a).a c (szM b e bg (k + 1) n a).fa (szM b e bg (k + 1) n a).fc) := by
  intro k
  induction k with
  | zero =>
    intro n a hn hk ha
    have ht := sz_more nb cb 1 (u8s b) a c e n ((0 + 1 : Nat) : Int) bg
    by_cases h1 : a < b.length
    case neg =>
      have hr : szM b e bg 1 n a = ⟨false, 0, a, b.length, 72⟩ := by unfold szM; rw [dif_neg h1]
      rw [hr]
      rw [u8s_len] at ht
      exact ⟨_, Goes.last (n := 30) (ls := fun _ _ => none) loops_none innerL (by simp) (ht.trans (bif_step (decide_eq_true (by omega)) rfl)), _, _, _, _, _, rfl, rfl⟩
    case pos =>
      have hx := b[a].toNat_lt
      have h2 : (n : Nat) < 16777216 := by omega
      have e1 : ibits BinOp.or IntKind.i64 (IntKind.i64.wrap ((n : Int) * (2 : Int) ^ (8 : Nat))) (IntKind.i64.wrap (intOf (nthD (nthD (u8s b) (a : Int).toNat).cells 0))) = ((n * 256 + b[a].toNat : Nat) : Int) := by
        rw [nthD_u8 h1]
        have w1 : IntKind.i64.wrap ((n : Int) * (2 : Int) ^ (8 : Nat)) = ((n * 2 ^ 8 : Nat) : Int) := by rw [wrap_i64]; omega
        have w2 : IntKind.i64.wrap (b[a].toNat : Int) = (b[a].toNat : Int) := by rw [wrap_i64]; omega
        have w3 : intOf (nthD (IV.int .u8 (b[a].toNat : Int)).cells 0) = (b[a].toNat : Int) := Eq.trans rfl rfl
        rw [w3, w1, w2]
        exact or_i64 (by omega) (by omega)
      have e2 : isOf (LT.i IntKind.u8) (nthD (nthD (u8s b) (a : Int).toNat).cells 0) = true := by rw [nthD_u8 h1]; rfl
      have e3 : IntKind.i64.wrap ((a : Int) + 1) = ((a + 1 : Nat) : Int) := by rw [wrap_i64]; omega
      have e4 : IntKind.i64.wrap (((0 + 1 : Nat) : Int) - 1) = 0 := by decide
      rw [e1, e3, u8s_len, e4] at ht
      replace ht := fun r q => ht.trans (bif_stepF (r := r) (decide_eq_false (by omega)) (bif_step (decide_eq_true ⟨rfl, by omega, by omega⟩) (bif_step e2 q)))
      generalize hm : n * 256 + b[a].toNat = m at *
      have hr : szM b e bg 1 n a = if m = 0 then ⟨false, 0, a + 1, bg, 71⟩ else if m < 128 then ⟨false, 0, a + 1, bg, 71⟩ else szD b.length e bg m (a + 1) := by
        unfold szM; rw [dif_pos h1, hm, if_neg (by omega : ¬ 0 < 0)]
      rw [hr]
      by_cases m0 : m = 0
      · rw [if_pos m0]
        exact ⟨_, Goes.last (n := 30) (ls := fun _ _ => none) loops_none innerL (by simp) (ht _ (bif_step (by rw [m0]; rfl) rfl)), _, _, _, _, _, rfl, rfl⟩
      rw [if_neg m0]
      replace ht := fun r q => ht r (bif_stepF (beq_eq_false_iff_ne.2 (by omega)) (bif_stepF (decide_eq_false (by omega)) q))
      by_cases m1 : m < 128
      · rw [if_pos m1]
        exact ⟨_, Goes.last (n := 30) (ls := fun _ _ => none) loops_none innerL (by simp) (ht _ (bif_step (decide_eq_true (by omega)) rfl)), _, _, _, _, _, rfl, rfl⟩
      rw [if_neg m1]
      replace ht := fun r q => ht r (bif_stepF (decide_eq_false (by omega)) q)
      have g1 := gt_sub (n := m) (e := e) (a := a + 1) (by omega) (by omega)
      have g2 := gt_sub (n := m) (e := b.length) (a := a + 1) (by omega) (by omega)
      unfold szD
      by_cases d1 : m + (a + 1) > e
      · have q1 : (decide ((m : Int) > IntKind.i64.wrap ((e : Int) - ((a + 1 : Nat) : Int))) == true) = true := by rw [g1, decide_eq_true d1]; rfl
        by_cases d2 : e < b.length
        · rw [if_pos ⟨d1, d2⟩]
          exact ⟨_, Goes.last (n := 30) (ls := fun _ _ => none) loops_none innerL (by simp) (ht _ (bif_step q1 (bif_step (decide_eq_true (by omega)) rfl))), _, _, _, _, _, rfl, rfl⟩
        · rw [if_neg (fun h => d2 h.2)]
          by_cases d3 : m + (a + 1) > b.length
          · rw [if_pos d3]
            exact ⟨_, Goes.last (n := 30) (ls := fun _ _ => none) loops_none innerL (by simp) (ht _ (bif_step q1 (bif_stepF (decide_eq_false (by omega)) (bif_step (by rw [g2, decide_eq_true d3]) rfl)))), _, _, _, _, _, rfl, rfl⟩
          · rw [if_neg d3, if_pos d1]
            exact ⟨_, Goes.last (n := 30) (ls := fun _ _ => none) loops_none innerL (by simp) (ht _ (bif_step q1 (bif_stepF (decide_eq_false (by omega)) (bif_stepF (by rw [g2, decide_eq_false d3]) (bif_step (by rw [g1, decide_eq_true d1]) rfl))))), _, _, _, _, _, rfl, rfl⟩
      · have q1 : (decide ((m : Int) > IntKind.i64.wrap ((e : Int) - ((a + 1 : Nat) : Int))) == true) = false := by rw [g1, decide_eq_false d1]; rfl
        rw [if_neg (fun h => d1 h.1)]
        by_cases d3 : m + (a + 1) > b.length
        · rw [if_pos d3]
          exact ⟨_, Goes.last (n := 30) (ls := fun _ _ => none) loops_none innerL (by simp) (ht _ (bif_stepF q1 (bif_step (by rw [g2, decide_eq_true d3]) rfl))), _, _, _, _, _, rfl, rfl⟩
        · rw [if_neg d3, if_neg d1]
          exact ⟨_, Goes.last (n := 30) (ls := fun _ _ => none) loops_none innerL (by simp) (ht _ (bif_stepF q1 (bif_stepF (by rw [g2, decide_eq_false d3]) (bif_stepF (by rw [g1, decide_eq_false d1]) rfl)))), _, _, _, _, _, rfl, rfl⟩
  | succ k ih =>
    intro n a hn hk ha
    have ht := sz_more nb cb 1 (u8s b) a c e n ((k + 1 + 1 : Nat) : Int) bg
    by_cases h1 : a < b.length
    case neg =>
      have hr : szM b e bg (k + 1 + 1) n a = ⟨false, 0, a, b.length, 72⟩ := by unfold szM; rw [dif_neg h1]
      rw [hr]
      rw [u8s_len] at ht
      exact ⟨_, Goes.last (n := 30) (ls := fun _ _ => none) loops_none innerL (by simp) (ht.trans (bif_step (decide_eq_true (by omega)) rfl)), _, _, _, _, _, rfl, rfl⟩
    case pos =>
      have hx := b[a].toNat_lt
      have hp : 256 ^ (4 - (k + 1)) = 256 ^ (4 - (k + 1 + 1)) * 256 := by rw [← Nat.pow_succ]; congr 1; omega
      have hb2 : 256 ^ (4 - (k + 1 + 1)) ≤ 256 ^ 2 := Nat.pow_le_pow_right (by omega) (by omega)
      have h2 : n < 65536 := by omega
      have e1 : ibits BinOp.or IntKind.i64 (IntKind.i64.wrap ((n : Int) * (2 : Int) ^ (8 : Nat))) (IntKind.i64.wrap (intOf (nthD (nthD (u8s b) (a : Int).toNat).cells 0))) = ((n * 256 + b[a].toNat : Nat) : Int) := by
        rw [nthD_u8 h1]
        have w1 : IntKind.i64.wrap ((n : Int) * (2 : Int) ^ (8 : Nat)) = ((n * 2 ^ 8 : Nat) : Int) := by rw [wrap_i64]; omega
        have w2 : IntKind.i64.wrap (b[a].toNat : Int) = (b[a].toNat : Int) := by rw [wrap_i64]; omega
        have w3 : intOf (nthD (IV.int .u8 (b[a].toNat : Int)).cells 0) = (b[a].toNat : Int) := Eq.trans rfl rfl
        rw [w3, w1, w2]
        exact or_i64 (by omega) (by omega)
      have e2 : isOf (LT.i IntKind.u8) (nthD (nthD (u8s b) (a : Int).toNat).cells 0) = true := by rw [nthD_u8 h1]; rfl
      have e3 : IntKind.i64.wrap ((a : Int) + 1) = ((a + 1 : Nat) : Int) := by rw [wrap_i64]; omega
      have e4 : IntKind.i64.wrap (((k + 1 + 1 : Nat) : Int) - 1) = ((k + 1 : Nat) : Int) := by rw [wrap_i64]; omega
      rw [e1, e3, u8s_len, e4] at ht
      replace ht := fun r q => ht.trans (bif_stepF (r := r) (decide_eq_false (by omega)) (bif_step (decide_eq_true ⟨rfl, by omega, by omega⟩) (bif_step e2 q)))
      generalize hm : n * 256 + b[a].toNat = m at *
      have hr : szM b e bg (k + 1 + 1) n a = if m = 0 then ⟨false, 0, a + 1, bg, 71⟩ else szM b e bg (k + 1) m (a + 1) := by
        conv => lhs; unfold szM
        rw [dif_pos h1, hm, if_pos (by omega : 0 < k + 1)]
      rw [hr]
      by_cases m0 : m = 0
      · rw [if_pos m0]
        exact ⟨_, Goes.last (n := 30) (ls := fun _ _ => none) loops_none innerL (by simp) (ht _ (bif_step (by rw [m0]; rfl) rfl)), _, _, _, _, _, rfl, rfl⟩
      rw [if_neg m0]
      obtain ⟨s', i1, i2⟩ := ih m (a + 1) (by omega) (by omega) (by omega)
      exact ⟨s', Goes.step (n := 30) (ls := fun _ _ => none) loops_none innerL (ht _ (bif_stepF (beq_eq_false_iff_ne.2 (by omega)) (bif_step (decide_eq_true (by omega)) rfl))) i1, i2⟩
end
end Go.Proofs.Ytolpgbgmldpneaa
