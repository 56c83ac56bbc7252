/- Values' bytes: the document's bytes. It bears no condition. -/
import Derived.Test.YtolpgbgmldpneaaDrL
namespace Go.Proofs.Ytolpgbgmldpneaa
open Go Go.Im
set_option linter.unusedVariables false
set_option linter.unusedSimpArgs false
set_option maxRecDepth 20000
noncomputable section

theorem nd_open {d : Nat} {t : Int} {n1 : Option Bool} {c1 : Bool} {z1 : Nat} {bs : List IV} {n2 : Option Bool} {c2 : Bool} {z2 : Nat} {ks : List IV} (h : cD (d + 1) (ndV t n1 c1 z1 bs n2 c2 z2 ks) = true) :
    ∃ N : Nd, ndOf (ndV t n1 c1 z1 bs n2 c2 z2 ks) = N ∧ t = N.tag ∧ bs = u8s N.bytes ∧ N.kids = ks.map ndOf ∧ (∀ k ∈ ks, cD d k = true ∧ okNd k = true) ∧ (z1 = 1 ∨ N.bytes = []) ∧ (z2 = 3 ∨ ks = []) ∧ N.bytes.length + szs (ks.map ndOf) ≤ 90000000 + 10000000 - 8 ∧ ks.length ≤ szs (ks.map ndOf) := by
  have h3' := h
  unfold cD cN at h3'
  simp only [Bool.and_eq_true, decide_eq_true_eq] at h3'
  obtain ⟨⟨h4, h5⟩, _⟩ := h3'
  obtain ⟨m1, e1, y1, m2, e2, y2, ks', hx, hk, ho, hz1, hz2⟩ := okNd_iff h4
  have hkk := fun k hm => cD_kid h (ks := ks') hk ho (k := k) hm
  generalize hN : ndOf (ndV t n1 c1 z1 bs n2 c2 z2 ks) = N at *
  simp only [ndV, IV.agg.injEq, List.cons.injEq, IV.int.injEq, IV.fsl.injEq, true_and, and_true] at hx
  obtain ⟨rfl, ⟨rfl, rfl, rfl, rfl⟩, rfl, rfl, rfl, rfl⟩ := hx
  have hsz := sz_mk N
  rw [hk] at hsz
  refine ⟨N, rfl, rfl, rfl, hk, fun k hm => ⟨hkk k hm, List.all_eq_true.1 ho k hm⟩, hz1, hz2, by omega, ?_⟩
  clear hsz hkk hk ho hz2 h hN h4
  induction ks with
  | nil => exact Nat.zero_le _
  | cons k ks ih =>
    have : 8 ≤ (ndOf k).sz := by rw [sz_mk]; omega
    rw [List.map_cons]
    show ks.length + 1 ≤ (ndOf k).sz + szs (ks.map ndOf)
    omega
theorem no_d0 {x : IV} (h : cD 0 x = true) : False := by
  unfold cD at h
  simp only [Bool.and_eq_true, decide_eq_true_eq] at h
  have h2 := h.2
  rw [dp_mk] at h2
  omega
theorem put_known : Known Try.prog hint 33 (putP (fun zo o x => decide ((zo = 1 ∨ o.length = 0) ∧ o.length ≤ 100000000) && cN x) gPut) := known_each fun xs T v T1 h => by
  unfold putP at h
  split at h
  case h_2 => cases h
  rename_i no zo o t n1 c1 z1 bs n2 c2 z2 ks
  simp only [List.mem_cons, List.not_mem_nil, or_false, Prod.mk.injEq, Bool.true_eq, Bool.and_eq_true] at h
  obtain ⟨⟨h1, h2⟩, rfl, rfl⟩ := h
  refine ⟨_, put_d (ndOf (ndV t n1 c1 z1 bs n2 c2 z2 ks)).dp, ?_⟩
  unfold putP cPut
  simp only [h1, cD_self h2, Bool.and_self]

/-! ### The document's length -/
def cRl (n : Int) : Bool := decide (0 ≤ n ∧ n < 4294967296)
theorem wk8 : ∀ k : Fin 5, IntKind.u64.wrap (IntKind.i64.wrap ((8 : Int) * ((k.val : Nat) : Int))) = ((8 * k.val : Nat) : Int) := by decide +kernel
theorem wk8' {k : Nat} (h : k ≤ 4) : IntKind.u64.wrap (IntKind.i64.wrap ((8 : Int) * (k : Int))) = ((8 * k : Nat) : Int) := wk8 ⟨k, by omega⟩
theorem shr_n {n k : Nat} (h : k ≤ 4) : (n : Int).fdiv ((2 : Int) ^ (min ((8 * k : Nat) : Int).toNat 64)) = ((n / 256 ^ k : Nat) : Int) := by
  have e : min ((8 * k : Nat) : Int).toNat 64 = 8 * k := by rw [Int.toNat_natCast]; omega
  have e2 : ((2 : Int) ^ (8 * k)) = ((256 ^ k : Nat) : Int) := by
    rw [Int.pow_mul]
    have : (2 : Int) ^ 8 = 256 := rfl
    rw [this]
    simp
  rw [e, e2, Int.fdiv_eq_ediv_of_nonneg _ (Int.natCast_nonneg _), Int.natCast_ediv]
theorem rl_run1 {n : Nat} (h0 : 1 ≤ n) (hn : n < 4294967296) : ∀ (m j : Nat), 1 ≤ j → j + m = kOf n →
    Runs Try.prog hint (acall Try.prog hint (ovrOf fun _ => none)) 0 (hint.kp 46) (loopAt Try.prog 46 124) (Sx 46 [.int .i64 (n : Int), .fsl (some true) true 0 [], .int .i64 (j : Int), .undef] []) (.exit 0)
      (Sx 46 [.int .i64 (n : Int), .fsl (some true) true 0 [], .int .i64 (kOf n : Int), .undef] [])
  | 0, j, hj, h => by
    obtain rfl : j = kOf n := by omega
    have hk := (kOf_le n).2
    have ht := rl_in n (kOf n) .undef
    rw [wk8' hk, shr_n hk, kOf_end hn] at ht
    exact Runs.last (n := 30) (ls := fun _ _ => none) loops_none inner0 (by simp) (ht.trans (bif_step (decide_eq_true (by omega)) (bif_stepF (decide_eq_false (by omega)) rfl)))
  | m + 1, j, hj, h => by
    have hk := (kOf_le n).2
    have hp := kOf_lt (n := n) (j := j) (by omega) h0
    have ht := rl_in n j .undef
    rw [wk8' (by omega), shr_n (by omega), wadd1 (by omega)] at ht
    exact Runs.step (n := 30) (ls := fun _ _ => none) loops_none inner0 (ht.trans (bif_step (decide_eq_true (by omega)) (bif_step (decide_eq_true (by omega)) rfl))) (rl_run1 h0 hn m (j + 1) (by omega) (by omega))
theorem rl_run2 {n : Nat} {k : Int} : ∀ (j : Nat) (l : List IV), j ≤ 4 → l.length + j ≤ 100 →
    Runs Try.prog hint (acall Try.prog hint (ovrOf fun _ => none)) 0 (hint.kp 46) (loopAt Try.prog 46 1018) (Sx 46 [.int .i64 (n : Int), .osl 0 0, .int .i64 k, .int .i64 ((j : Int) - 1)] [.row 0 false 1 l]) (.exit 2)
      (Sx 46 [.int .i64 (n : Int), .osl 0 0, .int .i64 k, .int .i64 (-1)] [.row 0 false 1 (l ++ u8s (be j n))])
  | 0, l, hj, hl => by
    have ht := rl_in2 n k (-1) l
    refine Runs.last (n := 30) (ls := fun _ _ => none) loops_none inner0 (by simp) (ht.trans (bif_stepF (decide_eq_false (by omega)) ?_))
    simp [be, u8s]
  | j + 1, l, hj, hl => by
    have e : ((j + 1 : Nat) : Int) - 1 = (j : Int) := by omega
    rw [e]
    have ht := rl_in2 n k j l
    rw [wk8' (by omega), shr_n (by omega), iv_u8_one, byte_at] at ht
    have w : IntKind.i64.wrap ((j : Int) - 1) = (j : Int) - 1 := by rw [wrap_i64]; omega
    rw [w] at ht
    have ih := rl_run2 (n := n) (k := k) j (l ++ u8s [byteAt n j]) (by omega) (by rw [List.length_append, u8s_len]; simp only [List.length_cons, List.length_nil]; omega)
    rw [List.append_assoc, ← u8s_app] at ih
    refine Runs.step (n := 30) (ls := fun _ _ => none) loops_none inner0 (ht.trans (bif_step (decide_eq_true (by omega)) (bif_step (decide_eq_true (by omega)) (bif_step (decide_eq_true ?_) rfl)))) ih
    rw [roomB_nat, maxLen_val, u8s_len]
    simp only [List.length_cons, List.length_nil]
    omega
theorem rlength_known : Known Try.prog hint 46 (rlP cRl gLen) := by
  refine known_frz fits fun us T v T1 h => ?_
  unfold rlP at h
  split at h
  case h_2 => cases h
  rename_i n0
  simp only [List.mem_cons, List.not_mem_nil, or_false, Prod.mk.injEq, Bool.true_eq, cRl, decide_eq_true_eq] at h
  obtain ⟨⟨h1, h2⟩, rfl, rfl⟩ := h
  obtain ⟨n, rfl⟩ : ∃ n : Nat, n0 = n := ⟨n0.toNat, by omega⟩
  refine ⟨rfl, rfl, [[.int .i64 (n : Int)]], by simp, Splits.self _, fun ys hy => ?_⟩
  rw [List.mem_singleton] at hy
  subst hy
  unfold gLen lenB
  rw [Int.toNat_natCast]
  by_cases hs : n < 128
  · rw [if_pos hs]
    refine ⟨noGd_of rfl, fun _ => none, ltab [(46, 124, noL), (46, 1018, noL)], (fun f F h => by cases h), ltab_cons (by kernel_rfl) (fun p s e s' h => by cases h) (ltab_cons (by kernel_rfl) (fun p s e s' h => by cases h) ltab_nil), 30, .osl 0 0, [.row 0 false 1 _], .fsl none false 1 _, [0], (rl_small n).trans (bif_step (decide_eq_true (by omega)) rfl), rfl, ?_⟩
    rw [iv_u8_one]
    exact Wk.refl _
  · rw [if_neg hs]
    have hk := kOf_le n
    have q2 := rl_run2 (n := n) (k := (kOf n : Int)) (kOf n) (u8s [u8of ((128 + kOf n : Nat) : Int)]) hk.2 (by rw [u8s_len]; simp only [List.length_cons, List.length_nil]; omega)
    rw [← u8s_app] at q2
    have w1 : IntKind.i64.wrap ((128 : Int) + (kOf n : Int)) = ((128 + kOf n : Nat) : Int) := by rw [wrap_i64]; omega
    have w2 : IntKind.i64.wrap ((kOf n : Int) - 1) = (kOf n : Int) - 1 := by rw [wrap_i64]; omega
    have hls : LoopsOK Try.prog hint (acall Try.prog hint (ovrOf fun _ => none)) (ltab [(46, 124, LF 46 0 (oneF [.int .i64 (n : Int), .fsl (some true) true 0 [], .int .i64 1, .undef] [] (.exit 0) [.int .i64 (n : Int), .fsl (some true) true 0 [], .int .i64 (kOf n : Int), .undef] [])), (46, 1018, LF 46 0 (oneF [.int .i64 (n : Int), .osl 0 0, .int .i64 (kOf n : Int), .int .i64 (IntKind.i64.wrap ((kOf n : Int) - 1))] [.row 0 false 1 [.int .u8 (IntKind.u8.wrap (IntKind.i64.wrap (128 + (kOf n : Int))))]] (.exit 2) [.int .i64 (n : Int), .osl 0 0, .int .i64 (kOf n : Int), .int .i64 (-1)] [.row 0 false 1 (u8s ([u8of ((128 + kOf n : Nat) : Int)] ++ be (kOf n) n))]))]) := by
      refine ltab_cons (by kernel_rfl) (loopF_ok fun vs bx e vs' bx' hm => ?_) (ltab_cons (by kernel_rfl) (loopF_ok fun vs bx e vs' bx' hm => ?_) ltab_nil)
      · obtain ⟨rfl, rfl, rfl, rfl, rfl⟩ := oneF_mem hm
        exact rl_run1 (n := n) (by omega) (by omega) (kOf n - 1) 1 (by omega) (by omega)
      · obtain ⟨rfl, rfl, rfl, rfl, rfl⟩ := oneF_mem hm
        rw [w1, w2, iv_u8_one]
        exact q2
    exact ⟨noGd_of rfl, fun _ => none, _, (fun f F h => by cases h), hls, 30, .osl 0 0, [.row 0 false 1 _], .fsl none false 1 _, [0], (rl_big n (kOf n) _).trans (bif_stepF (decide_eq_false (by omega)) (bif_step sameS_t (bif_step sameS_t rfl))), rfl, Wk.refl _⟩
end
end Go.Proofs.Ytolpgbgmldpneaa
