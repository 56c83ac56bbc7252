/- Values' bytes: lengths. It bears no condition. -/
import Derived.Test.YtolpgbgmldpneaaDrG
namespace Go.Proofs.Ytolpgbgmldpneaa
open Go Go.Im
set_option linter.unusedVariables false
set_option linter.unusedSimpArgs false
set_option maxRecDepth 20000
noncomputable section

/-! ### Reverse -/
def cRev (l : List IV) : Bool := decide (l.length ≤ 8) && isInts .u8 l
theorem rev_known : Known Try.prog hint 40 (revP cRev) := by
  refine known_acall fits fun us T v T1 h => ?_
  unfold revP at h
  split at h
  case h_2 => cases h
  rename_i l
  simp only [List.mem_cons, List.not_mem_nil, or_false, Prod.mk.injEq, Bool.true_eq, cRev, Bool.and_eq_true, decide_eq_true_eq] at h
  obtain ⟨⟨h1, h2⟩, rfl, rfl⟩ := h
  refine ⟨fun _ => none, 20, (fun f F h => by cases h), ?_⟩
  obtain ⟨zs, rfl⟩ : ∃ zs, l = List.map (IV.int .u8) zs := ⟨_, isInts_eq h2⟩
  rw [List.length_map] at h1
  match zs, h1 with
  | [], _ => show _ = _; kernel_rfl
  | [a], _ => show _ = _; kernel_rfl
  | [a, b], _ => show _ = _; kernel_rfl
  | [a, b, c], _ => show _ = _; kernel_rfl
  | [a, b, c, d], _ => show _ = _; kernel_rfl
  | [a, b, c, d, e], _ => show _ = _; kernel_rfl
  | [a, b, c, d, e, f], _ => show _ = _; kernel_rfl
  | [a, b, c, d, e, f, g], _ => show _ = _; kernel_rfl
  | [a, b, c, d, e, f, g, i], _ => show _ = _; kernel_rfl

/-! ### Lengths -/
def kOf (n : Nat) : Nat := if n < 256 then 1 else if n < 65536 then 2 else if n < 16777216 then 3 else 4
def lenB (n : Nat) : List UInt8 := if n < 128 then [u8of (n : Int)] else u8of ((128 + kOf n : Nat) : Int) :: be (kOf n) n
theorem kOf_le (n : Nat) : 1 ≤ kOf n ∧ kOf n ≤ 4 := by unfold kOf; split; · omega
                                                       split; · omega
                                                       split <;> omega
theorem kOf_lt {n j : Nat} (h : j < kOf n) (hn : 1 ≤ n) : 1 ≤ n / 256 ^ j := by
  have h4 := (kOf_le n).2
  have : j = 0 ∨ j = 1 ∨ j = 2 ∨ j = 3 := by omega
  unfold kOf at h
  rcases this with rfl | rfl | rfl | rfl
  · simpa using hn
  · have : ¬ n < 256 := fun h1 => by rw [if_pos h1] at h; omega
    omega
  · have h1 : ¬ n < 256 := fun h1 => by rw [if_pos h1] at h; omega
    have h2 : ¬ n < 65536 := fun h2 => by rw [if_neg h1, if_pos h2] at h; omega
    omega
  · have h1 : ¬ n < 256 := fun h1 => by rw [if_pos h1] at h; omega
    have h2 : ¬ n < 65536 := fun h2 => by rw [if_neg h1, if_pos h2] at h; omega
    have h3 : ¬ n < 16777216 := fun h3 => by rw [if_neg h1, if_neg h2, if_pos h3] at h; omega
    omega
theorem kOf_end {n : Nat} (hn : n < 4294967296) : n / 256 ^ (kOf n) = 0 := by
  unfold kOf
  split
  · omega
  · split
    · omega
    · split <;> omega
theorem be_succ (j : Nat) (x : Int) : be (j + 1) x = byteAt x j :: be j x := rfl
theorem u8s_app (a b : List UInt8) : u8s (a ++ b) = u8s a ++ u8s b := by simp [u8s]
theorem u8s_rev (a : List UInt8) : (u8s a).reverse = u8s a.reverse := by simp [u8s]
theorem fdiv8 (a j : Nat) : ((a / 256 ^ j : Nat) : Int).fdiv ((2 : Int) ^ (8 : Nat)) = ((a / 256 ^ (j + 1) : Nat) : Int) := by
  have : ((2 : Int) ^ (8 : Nat)) = ((256 : Nat) : Int) := rfl
  rw [this, Int.fdiv_eq_ediv_of_nonneg _ (by omega), Nat.pow_succ, ← Nat.div_div_eq_div_mul]
  omega
theorem byte_at (n j : Nat) : u8of ((n / 256 ^ j : Nat) : Int) = byteAt (n : Int) j := by
  unfold byteAt
  rw [Int.natCast_ediv]
theorem len_runs {n : Nat} (h0 : 1 ≤ n) (hn : n < 4294967296) {o : List IV} : ∀ (m j : Nat), j + m = kOf n →
    Runs Try.prog hint (acall Try.prog hint (ovrOf (tab [(40, revP cRev)]))) 1 (hint.kp 45) (loopAt Try.prog 45 60) (Sx 45 [.osl 0 1, .int .i64 ((n / 256 ^ j : Nat) : Int), .osl 1 0] [.row 1 false 1 o, .row 0 false 1 (u8s (be j n).reverse)]) (.exit 0)
      (Sx 45 [.osl 0 1, .int .i64 0, .osl 1 0] [.row 1 false 1 o, .row 0 false 1 (u8s (be (kOf n) n).reverse)])
  | 0, j, h => by
    obtain rfl : j = kOf n := by omega
    have ht := len_in cRev o (u8s (be (kOf n) n).reverse) ((n / 256 ^ (kOf n) : Nat) : Int)
    rw [kOf_end hn] at ht ⊢
    exact Runs.last (n := 30) (ls := fun _ _ => none) loops_none inner0 (by simp) (ht.trans (bif_stepF rfl rfl))
  | m + 1, j, h => by
    have ht := len_in cRev o (u8s (be j n).reverse) ((n / 256 ^ j : Nat) : Int)
    have hj := kOf_lt (n := n) (j := j) (by omega) h0
    have hk := (kOf_le n).2
    have ih := len_runs h0 hn (o := o) m (j + 1) (by omega)
    rw [fdiv8, iv_u8_one, byte_at] at ht
    rw [be_succ, List.reverse_cons, u8s_app] at ih
    refine Runs.step (n := 30) (ls := fun _ _ => none) loops_none inner0 (ht.trans (bif_step (decide_eq_true (by omega)) (bif_step (decide_eq_true ?_) rfl))) ih
    rw [roomB_nat, maxLen_val, u8s_len, u8s_len, List.length_reverse, be_len]
    simp only [List.length_cons, List.length_nil]
    omega
def cLen (o : List IV) (n : Int) : Bool := decide (0 ≤ n ∧ n < 4294967296 ∧ o.length ≤ 1000000000)
def gLen (n : Int) : List IV := u8s (lenB n.toNat)
theorem or128 : ∀ k : Fin 5, ibits BinOp.or IntKind.u8 (128 : Int) (IntKind.u8.wrap ((k.val : Nat) : Int)) = ((128 + k.val : Nat) : Int) := by decide +kernel
theorem length_known : Known Try.prog hint 45 (lenP cLen gLen) := by
  refine known_any fits ?_
  intro xs T v T1 h
  unfold lenP at h
  split at h
  case h_2 => cases h
  rename_i n0 o
  simp only [List.mem_cons, List.not_mem_nil, or_false, Prod.mk.injEq, Bool.true_eq, cLen, decide_eq_true_eq] at h
  obtain ⟨⟨h1, h2, h3⟩, rfl, rfl⟩ := h
  obtain ⟨n, rfl⟩ : ∃ n : Nat, n0 = n := ⟨n0.toNat, by omega⟩
  unfold gLen lenB
  rw [Int.toNat_natCast]
  by_cases hs : n < 128
  · rw [if_pos hs]
    refine ⟨fun _ => none, ltab [(45, 60, noL)], (fun f F h => by cases h), ltab_cons (by kernel_rfl) (fun p s e s' h => by cases h) ltab_nil, 30, (len_small o n).trans (bif_step (decide_eq_true (by omega)) (bif_step (decide_eq_true ?_) ?_))⟩
    · rw [roomB_nat, maxLen_val]; simp only [List.length_cons, List.length_nil]; omega
    · rw [iv_u8_one]
  · rw [if_neg hs]
    have hk := kOf_le n
    have hls : LoopsOK Try.prog hint (acall Try.prog hint (ovrOf (tab [(40, revP cRev)]))) (ltab [(45, 60, LF 45 1 (oneF [.osl 0 1, .int .i64 (n : Int), .osl 1 0] [.row 1 false 1 o, .row 0 false 1 []] (.exit 0) [.osl 0 1, .int .i64 0, .osl 1 0] [.row 1 false 1 o, .row 0 false 1 (u8s (be (kOf n) n).reverse)]))]) := by
      refine ltab_cons (by kernel_rfl) (loopF_ok fun vs bx e vs' bx' hm => ?_) ltab_nil
      obtain ⟨rfl, rfl, rfl, rfl, rfl⟩ := oneF_mem hm
      have := len_runs (n := n) (by omega) (by omega) (o := o) (kOf n) 0 (by omega)
      rw [Nat.pow_zero, Nat.div_one] at this
      exact this
    have hc : cRev (u8s (be (kOf n) n).reverse) = true := by
      unfold cRev
      rw [u8s_len, List.length_reverse, be_len, decide_eq_true (by omega)]
      show isInts .u8 (u8s _) = true
      unfold u8s
      rw [show (fun b : UInt8 => IV.int .u8 (b.toNat : Int)) = (IV.int .u8) ∘ (fun b : UInt8 => (b.toNat : Int)) from rfl, ← List.map_map]
      exact isInts_map _ _
    have hb := len_big cRev o (u8s (be (kOf n) n).reverse) n
    rw [u8s_rev, List.reverse_reverse, u8s_len, be_len, or128 ⟨kOf n, by omega⟩] at hb
    have hv : [IV.int IntKind.u8 ((128 + kOf n : Nat) : Int)] = u8s [u8of ((128 + kOf n : Nat) : Int)] := by
      rw [← iv_u8_one]
      have : IntKind.u8.wrap ((128 + kOf n : Nat) : Int) = ((128 + kOf n : Nat) : Int) := by rw [wrap_u8]; omega
      rw [this]
    have r1 : (o.length + [IV.int IntKind.u8 ((128 + kOf n : Nat) : Int)].length) * 1 ≤ roomB ∧ o.length + [IV.int IntKind.u8 ((128 + kOf n : Nat) : Int)].length ≤ maxLen := by
      rw [roomB_nat, maxLen_val]; simp only [List.length_cons, List.length_nil]; omega
    have r2 : ((o ++ [IV.int IntKind.u8 ((128 + kOf n : Nat) : Int)]).length + kOf n) * 1 ≤ roomB ∧ (o ++ [IV.int IntKind.u8 ((128 + kOf n : Nat) : Int)]).length + kOf n ≤ maxLen := by
      rw [roomB_nat, maxLen_val]; simp only [List.length_append, List.length_cons, List.length_nil]; omega
    have ho : o ++ [IV.int IntKind.u8 ((128 + kOf n : Nat) : Int)] ++ u8s (be (kOf n) n) = o ++ u8s (u8of ((128 + kOf n : Nat) : Int) :: be (kOf n) n) := by
      rw [hv, List.append_assoc, ← u8s_app]; rfl
    refine ⟨tab [(40, revP cRev)], _, tab_cons rev_known tab_nil, hls, 30, hb.trans (bif_stepF (decide_eq_false (by omega)) (bif_step sameS_t (bif_step hc ?_)))⟩
    rw [ho]
    cases scalar (IV.tup []) && [Blk.row (0 : Nat) false (1 : Nat) (u8s (be (kOf n) n))].all scalarB
    · exact bif_stepF rfl (bif_step (decide_eq_true r1) (bif_step (decide_eq_true r2) rfl))
    · exact bif_step rfl (bif_step (decide_eq_true r1) (bif_step (decide_eq_true r2) rfl))
end
end Go.Proofs.Ytolpgbgmldpneaa
