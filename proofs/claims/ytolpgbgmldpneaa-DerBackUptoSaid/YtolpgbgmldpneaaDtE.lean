/- Values are read, in plain words: what comes of it, and a length's bytes. It bears no condition. -/
import Derived.Test.YtolpgbgmldpneaaDtB
import Derived.Test.YtolpgbgmldpneaaDsC
namespace Go.Proofs.Ytolpgbgmldpneaa
open Go Go.Im
set_option linter.unusedVariables false
set_option linter.unusedSimpArgs false
set_option maxRecDepth 20000
noncomputable section

structure Vp where
  ok : Bool
  x : Nd
  a : Nat
  k : Nat
  fa : Nat
  fc : Int
structure Vl where
  ok : Bool
  ks : List Nd
  a : Nat
  k : Nat
  fa : Nat
  fc : Int
def z0 : Nd := .mk 0 [] []
def tagB (t : Nat) : Bool := decide (1 ≤ t ∧ t ≤ 5 ∨ t = 12 ∨ t = 48 ∨ t = 49)
def cutB (b : List UInt8) (i n : Nat) : List UInt8 := (b.drop i).take n
def vLoop (val : Nat → Nat → Vp) (stop : Nat) : Nat → List Nd → Nat → Nat → Vl
  | 0, acc, a, k => ⟨true, acc, a, k, 0, 0⟩
  | f + 1, acc, a, k => if a < stop then
      if (val a k).ok = true then vLoop val stop f (acc ++ [(val a k).x]) (val a k).a (val a k).k else ⟨false, acc, (val a k).a, (val a k).k, (val a k).fa, (val a k).fc⟩
    else ⟨true, acc, a, k, 0, 0⟩
def vEnd (t : Int) (a : Nat) (r : Vl) : Vp := if r.ok = true then if t = 49 ∧ adjB leB r.ks = false then ⟨false, z0, r.a, r.k, a, 74⟩ else ⟨true, .mk t [] r.ks, r.a, r.k, 0, 0⟩ else ⟨false, z0, r.a, r.k, r.fa, r.fc⟩
def vLeaf (b : List UInt8) (t : Int) (a : Nat) (s : Szr) (k : Nat) : Vp := if fitsB t (cutB b s.a s.n) = true then ⟨true, .mk t (cutB b s.a s.n) [], s.a + s.n, k + 1, 0, 0⟩ else ⟨false, z0, s.a + s.n, k + 1, a, 74⟩
def vMany (val : Nat → Nat → Nat → Vp) (t : Int) (a : Nat) (s : Szr) (k : Nat) : Vp := vEnd t a (vLoop (val (s.a + s.n)) (s.a + s.n) s.n [] s.a (k + 1))
def vBody (val : Nat → Nat → Nat → Vp) (b : List UInt8) (t : Int) (a : Nat) (s : Szr) (k : Nat) : Vp :=
  if s.ok = true then if gMany t = true then vMany val t a s k else vLeaf b t a s k else ⟨false, z0, s.a, k + 1, s.fa, s.fc⟩
def vF (b : List UInt8) : Nat → Nat → Nat → Nat → Vp
  | 0, e, a, k => if h : a < b.length then if tagB b[a].toNat = true then ⟨false, z0, a, k, a, 75⟩ else ⟨false, z0, a, k, a, 70⟩ else ⟨false, z0, a, k, b.length, 72⟩
  | l + 1, e, a, k => if h : a < b.length then if tagB b[a].toNat = true then if k = 4096 then ⟨false, z0, a, k, a, 2⟩ else vBody (vF b l) b b[a].toNat a (szF b e (a + 1)) k
      else ⟨false, z0, a, k, a, 70⟩ else ⟨false, z0, a, k, b.length, 72⟩

/-! ### Lengths -/
theorem cut_succ {b : List UInt8} {i n : Nat} (h : i < b.length) : cutB b i (n + 1) = b[i] :: cutB b (i + 1) n := by
  unfold cutB
  rw [← List.getElem_cons_drop h, List.take_succ_cons]
theorem cut_app (b : List UInt8) (i n m : Nat) : cutB b i (n + m) = cutB b i n ++ cutB b (i + n) m := by
  unfold cutB
  rw [List.take_add, List.drop_drop]
theorem cut_zero (b : List UInt8) (i : Nat) : cutB b i 0 = [] := rfl
theorem cut_len {b : List UInt8} {i n : Nat} (h : i + n ≤ b.length) : (cutB b i n).length = n := by
  unfold cutB
  rw [List.length_take, List.length_drop]
  omega
theorem szD_ok {L e bg n a : Nat} (h : (szD L e bg n a).ok = true) : szD L e bg n a = ⟨true, n, a, 0, 0⟩ ∧ n + a ≤ e ∧ n + a ≤ L := by
  unfold szD at h ⊢
  by_cases h1 : n + a > e ∧ e < L
  · rw [if_pos h1] at h; cases h
  rw [if_neg h1] at h ⊢
  by_cases h2 : n + a > L
  · rw [if_pos h2] at h; cases h
  rw [if_neg h2] at h ⊢
  by_cases h3 : n + a > e
  · rw [if_pos h3] at h; cases h
  rw [if_neg h3] at h ⊢
  exact ⟨rfl, by omega, by omega⟩
theorem u8of_nat (x : UInt8) : u8of (x.toNat : Int) = x := by
  have h1 := u8of_toNat (x.toNat : Int)
  have h2 := x.toNat_lt
  apply UInt8.toNat_inj.1
  omega
theorem szM_ok {b : List UInt8} {e bg : Nat} : ∀ (k n a : Nat), (szM b e bg (k + 1) n a).ok = true →
    ∃ N, szM b e bg (k + 1) n a = ⟨true, N, a + (k + 1), 0, 0⟩ ∧ N + (a + (k + 1)) ≤ e ∧ N + (a + (k + 1)) ≤ b.length ∧ n * 256 ^ (k + 1) ≤ N ∧ N < (n + 1) * 256 ^ (k + 1) ∧ cutB b a (k + 1) = be (k + 1) (N : Int) ∧ 128 ≤ N ∧ 256 ^ k ≤ N
  | 0, n, a, h => by
    unfold szM at h ⊢
    by_cases h1 : a < b.length
    case neg => rw [dif_neg h1] at h; cases h
    rw [dif_pos h1] at h ⊢
    by_cases h2 : n * 256 + b[a].toNat = 0
    · rw [if_pos h2] at h; cases h
    rw [if_neg h2, if_neg (by omega : ¬ 0 < 0)] at h ⊢
    by_cases h3 : n * 256 + b[a].toNat < 128
    · rw [if_pos h3] at h; cases h
    rw [if_neg h3] at h ⊢
    obtain ⟨h4, h5, h6⟩ := szD_ok h
    have hx := b[a].toNat_lt
    refine ⟨_, h4, h5, h6, by omega, by omega, ?_, by omega, by omega⟩
    rw [cut_succ h1, cut_zero, be_succ]
    show [b[a]] = [byteAt _ 0]
    unfold byteAt
    rw [Nat.pow_zero]
    congr 1
    apply UInt8.toNat_inj.1
    have := u8of_toNat (((n * 256 + b[a].toNat : Nat) : Int) / ((1 : Nat) : Int))
    omega
  | k + 1, n, a, h => by
    have ih := szM_ok (b := b) (e := e) (bg := bg) k
    have hu : szM b e bg (k + 1 + 1) n a = if h : a < b.length then
      if n * 256 + b[a].toNat = 0 then ⟨false, 0, a + 1, bg, 71⟩ else
      if 0 < k + 1 then szM b e bg (k + 1) (n * 256 + b[a].toNat) (a + 1) else
      if n * 256 + b[a].toNat < 128 then ⟨false, 0, a + 1, bg, 71⟩ else szD b.length e bg (n * 256 + b[a].toNat) (a + 1)
    else ⟨false, 0, a, b.length, 72⟩ := by conv => lhs; unfold szM
    rw [hu] at h ⊢
    by_cases h1 : a < b.length
    case neg => rw [dif_neg h1] at h; cases h
    rw [dif_pos h1] at h ⊢
    by_cases h2 : n * 256 + b[a].toNat = 0
    · rw [if_pos h2] at h; cases h
    rw [if_neg h2, if_pos (by omega : 0 < k + 1)] at h ⊢
    obtain ⟨N, i1, i2, i3, i4, i5, i6, i7, i8⟩ := ih _ _ h
    have hx := b[a].toNat_lt
    have hp : 256 ^ (k + 1 + 1) = 256 ^ (k + 1) * 256 := Nat.pow_succ ..
    have hp0 : 0 < 256 ^ (k + 1) := Nat.pow_pos (by omega)
    have e1 : n * 256 ^ (k + 1 + 1) = (n * 256) * 256 ^ (k + 1) := by rw [hp, Nat.mul_comm (256 ^ (k + 1)), ← Nat.mul_assoc]
    have e2 : (n + 1) * 256 ^ (k + 1 + 1) = ((n + 1) * 256) * 256 ^ (k + 1) := by rw [hp, Nat.mul_comm (256 ^ (k + 1)), ← Nat.mul_assoc]
    have m1 : (n * 256) * 256 ^ (k + 1) ≤ (n * 256 + b[a].toNat) * 256 ^ (k + 1) := Nat.mul_le_mul_right _ (by omega)
    have m2 : (n * 256 + b[a].toNat + 1) * 256 ^ (k + 1) ≤ ((n + 1) * 256) * 256 ^ (k + 1) := Nat.mul_le_mul_right _ (by omega)
    have m3 : 1 * 256 ^ (k + 1) ≤ (n * 256 + b[a].toNat) * 256 ^ (k + 1) := Nat.mul_le_mul_right _ (by omega)
    have hd : N / 256 ^ (k + 1) = n * 256 + b[a].toNat := by
      apply Nat.div_eq_of_lt_le
      · exact i4
      · exact i5
    refine ⟨N, ?_, by omega, by omega, by omega, by omega, ?_, i7, by omega⟩
    · rw [i1]; congr 1; omega
    · rw [cut_succ h1, i6, be_succ (k + 1)]
      congr 1
      unfold byteAt
      rw [← Int.natCast_ediv, hd]
      apply UInt8.toNat_inj.1
      have := u8of_toNat ((n * 256 + b[a].toNat : Nat) : Int)
      omega
theorem kOf_of {k N : Nat} (hk : k < 4) (h1 : 256 ^ k ≤ N) (h2 : N < 256 ^ (k + 1)) : kOf N = k + 1 := by
  have : k = 0 ∨ k = 1 ∨ k = 2 ∨ k = 3 := by omega
  rcases this with rfl | rfl | rfl | rfl <;> unfold kOf <;> simp only [Nat.reducePow, Nat.reduceAdd] at h1 h2 <;> (repeat' split) <;> omega
theorem szF_ok {b : List UInt8} {e a : Nat} (h : (szF b e a).ok = true) : ∃ N p, szF b e a = ⟨true, N, a + p, 0, 0⟩ ∧ 1 ≤ p ∧ N + (a + p) ≤ e ∧ N + (a + p) ≤ b.length ∧ cutB b a p = lenB N ∧ N < 4294967296 := by
  unfold szF at h ⊢
  by_cases h1 : a < b.length
  case neg => rw [dif_neg h1] at h; cases h
  rw [dif_pos h1] at h ⊢
  have hx := b[a].toNat_lt
  by_cases h2 : b[a].toNat < 128
  · rw [if_pos h2] at h ⊢
    obtain ⟨h4, h5, h6⟩ := szD_ok h
    refine ⟨_, 1, h4, by omega, h5, h6, ?_, by omega⟩
    rw [cut_succ h1, cut_zero]
    unfold lenB
    rw [if_pos h2, u8of_nat]
  rw [if_neg h2] at h ⊢
  by_cases h3 : b[a].toNat % 128 = 0 ∨ b[a].toNat % 128 > 4
  · rw [if_pos h3] at h; cases h
  rw [if_neg h3] at h ⊢
  obtain ⟨j, hj⟩ : ∃ j, b[a].toNat % 128 = j + 1 := ⟨b[a].toNat % 128 - 1, by omega⟩
  rw [hj] at h ⊢
  obtain ⟨N, i1, i2, i3, i4, i5, i6, i7, i8⟩ := szM_ok _ _ _ h
  have hp : (256 : Nat) ^ (j + 1) ≤ 256 ^ 4 := Nat.pow_le_pow_right (by omega) (by omega)
  have hk := kOf_of (k := j) (N := N) (by omega) i8 (by omega)
  refine ⟨N, j + 1 + 1, by rw [i1]; congr 1; omega, by omega, by omega, by omega, ?_, by omega⟩
  rw [cut_succ h1, i6]
  unfold lenB
  rw [if_neg (by omega), hk]
  congr 1
  rw [show 128 + (j + 1) = b[a].toNat by omega, u8of_nat]
end
end Go.Proofs.Ytolpgbgmldpneaa
