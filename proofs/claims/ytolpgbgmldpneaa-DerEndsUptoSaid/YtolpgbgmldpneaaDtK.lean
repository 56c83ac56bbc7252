/- DerBack and DerEnds at all arguments that are not too great. It bears no condition. -/
import Derived.Test.YtolpgbgmldpneaaDtI
import Derived.Test.YtolpgbgmldpneaaDtJ
import Derived.Test.YtolpgbgmldpneaaDsD
namespace Go.Proofs.Ytolpgbgmldpneaa
open Go Go.Im
set_option linter.unusedVariables false
set_option linter.unusedSimpArgs false
set_option maxRecDepth 20000
noncomputable section

def rdG (bs : List IV) : Rr := ⟨(rdF (toBytes bs)).x.tag, u8s (rdF (toBytes bs)).x.bytes, (rdF (toBytes bs)).x.kids.map ndIV, (rdF (toBytes bs)).fa, (rdF (toBytes bs)).fc⟩
def cRd (z : Nat) (bs : List IV) : Bool := decide (z = 1 ∧ bs.length ≤ 100000000) && okB bs
theorem cRd_of {b : List UInt8} (h : b.length ≤ 100000000) : cRd 1 (u8s b) = true := by
  unfold cRd
  rw [okB_u8s, u8s_len, decide_eq_true ⟨rfl, h⟩]
  rfl
theorem wk_zero' {y : IV} : Wk (.tup [.agg [.int .i64 0, .fsl (some true) true 0 [], .fsl (some true) true 0 []], y]) (.tup [.agg [.int .i64 0, .fsl none false 1 [], .fsl none false 3 []], y]) :=
  wk_tup (Wk.agg (WkL.cons (Wk.refl _) (WkL.cons nil_fsl (WkL.cons (Wk.fsl rfl (.inl rfl) (by simp) (.inr rfl)) WkL.nil))))
theorem read_known : Known Try.prog hint 17 (rdP cRd rdG) := known_weak fits (spec := tab [(37, valP (cV 17) gV)]) (tab_cons (value_d 17 (by omega)) tab_nil) loops_none fun us T v T1 h => by
  unfold rdP at h
  split at h
  case h_2 => cases h
  rename_i nb cb z bs
  simp only [List.mem_cons, List.not_mem_nil, or_false, Prod.mk.injEq, Bool.true_eq] at h
  obtain ⟨h0, rfl, rfl⟩ := h
  unfold cRd at h0
  rw [Bool.and_eq_true, decide_eq_true_eq] at h0
  obtain ⟨⟨rfl, h1⟩, ho⟩ := h0
  obtain ⟨b, rfl⟩ : ∃ b, bs = u8s b := ⟨_, okB_eq ho⟩
  rw [u8s_len] at h1
  have ht := rd_tree (cV 17) gV nb cb 1 (u8s b)
  unfold rdG rdF
  rw [u8s_len] at ht
  rw [toBytes_u8s]
  refine ⟨noGd_of rfl, 30, ?_⟩
  by_cases h2 : b.length > 65535
  · rw [if_pos h2]
    exact ⟨_, wk_zero', ht.trans (bif_step (decide_eq_true (by omega)) rfl)⟩
  rw [if_neg h2]
  have hc : (bif decide ((0 : Int) = (0 : Int) ∧ (0 : Int) = (0 : Int)) then cV 17 1 (u8s b) (b.length : Int) 16 0 0 else false) = true := by
    rw [decide_eq_true ⟨rfl, rfl⟩]
    exact cV_of (d := 17) (b := b) (e := b.length) (l := 16) (a := 0) (k := 0) (by omega) (by omega) (by omega) (by omega) (by omega)
  have hg : gV (u8s b) (b.length : Int) 16 0 0 = vOf (vF b 16 b.length 0 0) := gV_eq b b.length 16 0 0
  rw [hg] at ht
  replace ht := fun r q => ht.trans (bif_stepF (r := r) (decide_eq_false (by omega)) (bif_step hc q))
  generalize vF b 16 b.length 0 0 = r at *
  cases hr : r.ok
  · rw [if_neg (by simp)]
    exact ⟨_, wk_zero', ht _ (bif_stepF (by show (r.ok == true) = false; rw [hr]; rfl) (bif_step (by show (!r.ok) = true; rw [hr]; rfl) rfl))⟩
  · rw [if_pos rfl]
    by_cases h3 : r.a < b.length
    · rw [if_pos h3]
      exact ⟨_, wk_zero', ht _ (bif_step (by show (r.ok == true) = true; rw [hr]; rfl) (bif_step (decide_eq_true (by show (r.a : Int) < b.length; omega)) rfl))⟩
    · rw [if_neg h3]
      exact ⟨_, Wk.refl _, ht _ (bif_step (by show (r.ok == true) = true; rw [hr]; rfl) (bif_stepF (decide_eq_false (by show ¬ (r.a : Int) < b.length; omega)) (bif_stepF (by show (!r.ok) = false; rw [hr]; rfl) rfl)))⟩
theorem rd_iv (b : List UInt8) : ndV (rdG (u8s b)).t none false 1 (rdG (u8s b)).bs none false 3 (rdG (u8s b)).ks = ndIV (rdF b).x := by
  unfold rdG
  rw [toBytes_u8s]
  exact (ndIV_mk _).symm
theorem rd_fc (b : List UInt8) : (rdG (u8s b)).fc = (rdF b).fc ∧ (rdG (u8s b)).fa = (rdF b).fa := by
  unfold rdG
  rw [toBytes_u8s]
  exact ⟨rfl, rfl⟩
theorem cN_iv {x : Nd} (h : x.sz ≤ 100000000) : cN (ndIV x) = true := by
  unfold cN
  rw [(nd_iv x).1, (nd_iv x).2]
  exact decide_eq_true h
theorem gR_iv (x : Nd) : gRight (ndIV x) = (x.rg 16 4096).1 := by unfold gRight; rw [(nd_iv x).1]
theorem arg22 {x : IV} (h : ArgT Try.prog 22 x) (hb : ivB x ≤ 1048576) : ∃ nl cl b, x = .fsl (some nl) cl 1 (u8s b) ∧ b.length ≤ 1048576 := by
  obtain ⟨n, l, h1, h2, _⟩ := h
  obtain ⟨nl, cl, es, rfl, ho⟩ := ty22 h1
  have : x = .fsl (some nl) cl 1 es := by
    simp only [pack, isAggT, und22, Option.map_some] at h2
    exact (Option.some.inj h2).symm
  subst this
  refine ⟨nl, cl, toBytes es, by rw [← okB_eq ho], ?_⟩
  have hu : ∀ b : List UInt8, ivBs (u8s b) = b.length := by
    intro b
    induction b with
    | nil => rfl
    | cons c b ih => rw [u8s_cons]; show 1 + ivBs (u8s b) = _; rw [ih, List.length_cons]; omega
  rw [okB_eq ho] at hb
  have := hu (toBytes es)
  simp only [ivB] at hb
  omega
abbrev tabK' : FuncId → Option SpecF := tabK cN gHeavy cN gWr gWe cN gRight cS2 gSa cRd rdG
theorem tabK_ok : ∀ f F, tabK' f = some F → Known Try.prog hint f F := tab_cons heavy_known (tab_cons alive_known (tab_cons write_known (tab_cons right_known (tab_cons same_known (tab_cons read_known tab_nil)))))
end
end Go.Proofs.Ytolpgbgmldpneaa
