/- Fields and what is right: what is proved of the given program. It bears no condition. -/
import Derived.Test.YtphddjolipaejaaWiE
namespace Go.Proofs.Ytphddjolipaejaa
open Go Go.Im
set_option linter.unusedVariables false
set_option linter.unusedSimpArgs false
noncomputable section


theorem heavy_light {p : PK} (h : p.heavy = false) : p.es.length ≤ 20 ∧ p.su.length + wts p.xs ≤ 20000 := by
  simp only [PK.heavy, Bool.or_eq_false_iff, decide_eq_false_iff_not] at h
  omega
theorem wt_le {vs : List XV} {v : XV} (h : v ∈ vs) : wt v ≤ wts vs := by
  induction vs with
  | nil => cases h
  | cons x vs ih =>
    rw [wts_cons]
    rcases List.mem_cons.1 h with rfl | h
    · omega
    · have := ih h
      omega
/-- How many bytes a field has. -/
def xsize (v : XV) : Nat := 24 + (v.l1.length + fillN v.l1.length) + (v.l2.length + fillN v.l2.length)
def xlight (v : XV) : Bool := decide (v.l1.length ≤ 20000 ∧ v.l2.length ≤ 20000)
theorem size_known : Known Try.prog hint 20 (xP .i64 xlight fun v => ((xsize v : Nat) : Int)) := by
  refine known_of fits (spec := tab [(29, intP smallB padG)]) (tab_cons pad_known tab_nil) loops_none ?_
  intro xs T v T1 h
  obtain ⟨x, rfl, rfl, hx, rfl, rfl⟩ := xP_mem h
  simp only [xlight, decide_eq_true_eq] at hx
  refine ⟨30, (size_all ..).trans ?_⟩
  have h1 := fillN_lt x.l1.length
  have h2 := fillN_lt x.l2.length
  have e : IntKind.i64.wrap (IntKind.i64.wrap (24 + ((x.l1.length + fillN x.l1.length : Nat) : Int)) + ((x.l2.length + fillN x.l2.length : Nat) : Int)) = ((xsize x : Nat) : Int) := by
    unfold xsize
    rw [wrap_i64, wrap_i64]; omega
  simp only [smallB_t (show x.l1.length ≤ 100000 by omega), smallB_t (show x.l2.length ≤ 100000 by omega), padG_nat, e, cond_true]
theorem btw_known : Known Try.prog hint 25 btwF := by
  refine known_of fits (spec := tab []) tab_nil loops_none ?_
  (intro xs T v T1 h; unfold btwF at h; split at h; rotate_left; · cases h)
  rename_i a b c
  (simp only [List.mem_cons, List.not_mem_nil, or_false, Prod.mk.injEq, Bool.true_eq, Bool.and_eq_true, decide_eq_true_eq] at h; obtain ⟨h1, rfl, rfl⟩ := h)
  exact ⟨30, (btw_all ..).trans (by congr 3; rw [Bool.eq_iff_iff]; simp)⟩
theorem bit_known : Known Try.prog hint 19 bitF := by
  refine known_of fits (spec := tab []) tab_nil loops_none ?_
  (intro xs T v T1 h; unfold bitF at h; split at h; rotate_left; · cases h)
  rename_i b n
  (simp only [List.mem_cons, List.not_mem_nil, or_false, Prod.mk.injEq, Bool.true_eq, Bool.and_eq_true, decide_eq_true_eq] at h; obtain ⟨h1, rfl, rfl⟩ := h)
  exact ⟨30, (bit_all ..).trans (by cases b <;> rfl)⟩
theorem byFC2 (x : Int) : byFC x 2 = true := Eq.trans rfl rfl
theorem byFC4 (x : Int) : byFC x 4 = true := Eq.trans rfl rfl
theorem byFC8 (x : Int) : byFC x 8 = true := Eq.trans rfl rfl
theorem byFG2 (x : Int) : byFG x 2 = u8s (be 2 x) := Eq.trans rfl rfl
theorem byFG4 (x : Int) : byFG x 4 = u8s (be 4 x) := Eq.trans rfl rfl
theorem byFG8 (x : Int) : byFG x 8 = u8s (be 8 x) := Eq.trans rfl rfl
theorem byFG_len (x n : Int) : (byFG x n).length = n.toNat := by simp [byFG, u8s_len, be_len]
theorem byl2 (x : Int) : (byFG x 2).length = 2 := byFG_len x 2
theorem byl4 (x : Int) : (byFG x 4).length = 4 := byFG_len x 4
theorem byl8 (x : Int) : (byFG x 8).length = 8 := byFG_len x 8
def macL (k : Int) (l : List IV) : List IV := u8s (be 4 (IntKind.u64.wrap k)) ++ l
def macC1 (h : Bool) (_k : Int) (_z : Nat) (_l : List IV) : Bool := !h
def macC2 (h : Bool) (_k : Int) (z : Nat) (l : List IV) : Bool := h && decide ((z = 1 ∨ l.length = 0) ∧ l.length ≤ 20000)
theorem mac_known : Known Try.prog hint 24 (macP macC1 macC2 macL) := by
  refine known_of fits (spec := tab [(22, byF)]) (tab_cons by_known tab_nil) loops_none ?_
  intro xs T v T1 h
  obtain ⟨hh, k, nl, cl, z, l, rfl, rfl, h0⟩ := macP_mem h
  refine ⟨30, (mac_all ..).trans ?_⟩
  rcases h0 with ⟨h1, rfl, rfl⟩ | ⟨h1, rfl, rfl⟩
  · simp only [macC1] at h1
    rw [h1]; rfl
  · simp only [macC2, Bool.and_eq_true, decide_eq_true_eq] at h1
    obtain ⟨rfl, h1, h2⟩ := h1
    refine bif_stepF rfl (bif_step (byFC4 _) ?_)
    have l4 : ∀ y, (byFG y 4).length = 4 := fun y => byFG_len y 4
    refine bif_step (decide_eq_true ?_) (bif_step (decide_eq_true ?_) (bif_step (decide_eq_true ?_) rfl))
    · (simp only [List.length_append, List.length_cons, List.length_nil, List.length_replicate, u8s_len, be_len, dataL_len, byl2, byl4, byl8, roomB_nat, maxLen_val, Nat.mul_one, true_and, and_true, true_or, or_true, eq_self, Nat.zero_add] <;> omega)
    · omega
    · (simp only [List.length_append, List.length_cons, List.length_nil, List.length_replicate, u8s_len, be_len, dataL_len, byl2, byl4, byl8, roomB_nat, maxLen_val, Nat.mul_one, true_and, and_true, true_or, or_true, eq_self, Nat.zero_add] <;> omega)
/-- A field's first byte. -/
def fst8 (v : XV) : Int := v.a + (bif v.b then 128 else 0) + (bif v.c then 64 else 0)
def fieldL (v : XV) : List IV := [.int .u8 (fst8 v), .int .u8 0] ++ u8s (be 2 (xsize v : Nat)) ++ u8s (be 2 (IntKind.u64.wrap v.d)) ++ [.int .u8 0, .int .u8 0] ++ u8s (be 4 (IntKind.u64.wrap v.ts)) ++ u8s (be 4 (IntKind.u64.wrap v.fs)) ++ dataL v.l1 ++ dataL v.l2
theorem fieldL_len (v : XV) : (fieldL v).length = xsize v := by
  simp only [fieldL, List.length_append, List.length_cons, List.length_nil, u8s_len, be_len, dataL_len, xsize]
  omega
def fieldC (v : XV) : Bool := decide (1 ≤ v.a ∧ v.a ≤ 63 ∧ (v.z1 = 1 ∨ v.l1.length = 0) ∧ (v.z2 = 1 ∨ v.l2.length = 0) ∧ v.l1.length ≤ 20000 ∧ v.l2.length ≤ 20000)
theorem field_known : Known Try.prog hint 23 (xRowP fieldC fieldL) := by
  refine known_of fits (spec := tab [(30, intP smallB fillG), (22, byF), (31, rdataP rdataFC dataL)]) (tab_cons fill_known (tab_cons by_known (tab_cons rdata_known tab_nil))) loops_none ?_
  intro xs T v T1 h
  obtain ⟨x, rfl, rfl, hx, rfl, rfl⟩ := xRowP_mem h
  simp only [fieldC, decide_eq_true_eq] at hx
  refine ⟨30, (field_all ..).trans ?_⟩
  have h1 := fillN_lt x.l1.length
  have h2 := fillN_lt x.l2.length
  have e : IntKind.u64.wrap (IntKind.i64.wrap (IntKind.i64.wrap (IntKind.i64.wrap (IntKind.i64.wrap (24 + (x.l1.length : Int)) + ((fillN x.l1.length : Nat) : Int)) + (x.l2.length : Int)) + ((fillN x.l2.length : Nat) : Int))) = ((xsize x : Nat) : Int) := by
    rw [show (24 : Int) = ((24 : Nat) : Int) from rfl, wadd (by omega), wadd (by omega), wadd (by omega), wadd (by omega), wu_nat (by omega)]
    unfold xsize
    congr 1; omega
  have r1 : rdataFC x.z1 x.l1 = true := by simp only [rdataFC, decide_eq_true_eq]; omega
  have r2 : rdataFC x.z2 x.l2 = true := by simp only [rdataFC, decide_eq_true_eq]; omega
  have s1 := smallB_t (show x.l1.length ≤ 100000 by omega)
  have s2 := smallB_t (show x.l2.length ≤ 100000 by omega)
  have hl : ∀ f : Int, f = fst8 x → [IV.int .u8 f, .int .u8 0] ++ u8s (be 2 (xsize x : Nat)) ++ u8s (be 2 (IntKind.u64.wrap x.d)) ++ [.int .u8 0, .int .u8 0] ++ u8s (be 4 (IntKind.u64.wrap x.ts)) ++ u8s (be 4 (IntKind.u64.wrap x.fs)) ++ dataL x.l1 ++ dataL x.l2 = fieldL x := fun f h => by subst h; rfl
  have f0 : ∀ k : Int, 1 ≤ k → k ≤ 255 → IntKind.u8.wrap k = k := fun k h1 h2 => wrap_u8_id (by omega) (by omega)
  have f1 : ∀ k : Int, k = 128 ∨ k = 64 → IntKind.i64.wrap (x.a + k) = x.a + k := fun k hk => wrap_i64_id (by omega) (by omega)
  have f2 : IntKind.i64.wrap (x.a + 128 + 64) = x.a + 128 + 64 := wrap_i64_id (by omega) (by omega)
  cases hb : x.b <;> cases hc : x.c
  · refine bif_stepF rfl (bif_stepF rfl ?_)
    refine bif_step s1 (bif_step s2 (bif_step (byFC2 _) ?_))
    (refine bif_step (decide_eq_true (by (simp only [List.length_append, List.length_cons, List.length_nil, List.length_replicate, u8s_len, be_len, dataL_len, byl2, byl4, byl8, roomB_nat, maxLen_val, Nat.mul_one, true_and, and_true, true_or, or_true, eq_self, Nat.zero_add] <;> omega))) ?_)
    refine bif_step (byFC2 _) ?_
    (refine bif_step (decide_eq_true (by (simp only [List.length_append, List.length_cons, List.length_nil, List.length_replicate, u8s_len, be_len, dataL_len, byl2, byl4, byl8, roomB_nat, maxLen_val, Nat.mul_one, true_and, and_true, true_or, or_true, eq_self, Nat.zero_add] <;> omega))) ?_)
    (refine bif_step (decide_eq_true (by (simp only [List.length_append, List.length_cons, List.length_nil, List.length_replicate, u8s_len, be_len, dataL_len, byl2, byl4, byl8, roomB_nat, maxLen_val, Nat.mul_one, true_and, and_true, true_or, or_true, eq_self, Nat.zero_add] <;> omega))) ?_)
    refine bif_step (byFC4 _) ?_
    (refine bif_step (decide_eq_true (by (simp only [List.length_append, List.length_cons, List.length_nil, List.length_replicate, u8s_len, be_len, dataL_len, byl2, byl4, byl8, roomB_nat, maxLen_val, Nat.mul_one, true_and, and_true, true_or, or_true, eq_self, Nat.zero_add] <;> omega))) ?_)
    refine bif_step (byFC4 _) ?_
    (refine bif_step (decide_eq_true (by (simp only [List.length_append, List.length_cons, List.length_nil, List.length_replicate, u8s_len, be_len, dataL_len, byl2, byl4, byl8, roomB_nat, maxLen_val, Nat.mul_one, true_and, and_true, true_or, or_true, eq_self, Nat.zero_add] <;> omega))) ?_)
    refine bif_step r1 ?_
    (refine bif_step (decide_eq_true (by (simp only [List.length_append, List.length_cons, List.length_nil, List.length_replicate, u8s_len, be_len, dataL_len, byl2, byl4, byl8, roomB_nat, maxLen_val, Nat.mul_one, true_and, and_true, true_or, or_true, eq_self, Nat.zero_add] <;> omega))) ?_)
    refine bif_step r2 ?_
    (refine bif_step (decide_eq_true (by (simp only [List.length_append, List.length_cons, List.length_nil, List.length_replicate, u8s_len, be_len, dataL_len, byl2, byl4, byl8, roomB_nat, maxLen_val, Nat.mul_one, true_and, and_true, true_or, or_true, eq_self, Nat.zero_add] <;> omega))) ?_)
    have hf : fst8 x = x.a := by simp [fst8, hb, hc]
    rw [← hl _ hf.symm]
    simp only [byFG2, byFG4, fillG_nat, e, f0 (x.a) (by omega) (by omega)]
    rfl
  · refine bif_stepF rfl (bif_step rfl ?_)
    refine bif_step s1 (bif_step s2 (bif_step (byFC2 _) ?_))
    (refine bif_step (decide_eq_true (by (simp only [List.length_append, List.length_cons, List.length_nil, List.length_replicate, u8s_len, be_len, dataL_len, byl2, byl4, byl8, roomB_nat, maxLen_val, Nat.mul_one, true_and, and_true, true_or, or_true, eq_self, Nat.zero_add] <;> omega))) ?_)
    refine bif_step (byFC2 _) ?_
    (refine bif_step (decide_eq_true (by (simp only [List.length_append, List.length_cons, List.length_nil, List.length_replicate, u8s_len, be_len, dataL_len, byl2, byl4, byl8, roomB_nat, maxLen_val, Nat.mul_one, true_and, and_true, true_or, or_true, eq_self, Nat.zero_add] <;> omega))) ?_)
    (refine bif_step (decide_eq_true (by (simp only [List.length_append, List.length_cons, List.length_nil, List.length_replicate, u8s_len, be_len, dataL_len, byl2, byl4, byl8, roomB_nat, maxLen_val, Nat.mul_one, true_and, and_true, true_or, or_true, eq_self, Nat.zero_add] <;> omega))) ?_)
    refine bif_step (byFC4 _) ?_
    (refine bif_step (decide_eq_true (by (simp only [List.length_append, List.length_cons, List.length_nil, List.length_replicate, u8s_len, be_len, dataL_len, byl2, byl4, byl8, roomB_nat, maxLen_val, Nat.mul_one, true_and, and_true, true_or, or_true, eq_self, Nat.zero_add] <;> omega))) ?_)
    refine bif_step (byFC4 _) ?_
    (refine bif_step (decide_eq_true (by (simp only [List.length_append, List.length_cons, List.length_nil, List.length_replicate, u8s_len, be_len, dataL_len, byl2, byl4, byl8, roomB_nat, maxLen_val, Nat.mul_one, true_and, and_true, true_or, or_true, eq_self, Nat.zero_add] <;> omega))) ?_)
    refine bif_step r1 ?_
    (refine bif_step (decide_eq_true (by (simp only [List.length_append, List.length_cons, List.length_nil, List.length_replicate, u8s_len, be_len, dataL_len, byl2, byl4, byl8, roomB_nat, maxLen_val, Nat.mul_one, true_and, and_true, true_or, or_true, eq_self, Nat.zero_add] <;> omega))) ?_)
    refine bif_step r2 ?_
    (refine bif_step (decide_eq_true (by (simp only [List.length_append, List.length_cons, List.length_nil, List.length_replicate, u8s_len, be_len, dataL_len, byl2, byl4, byl8, roomB_nat, maxLen_val, Nat.mul_one, true_and, and_true, true_or, or_true, eq_self, Nat.zero_add] <;> omega))) ?_)
    have hf : fst8 x = x.a + 64 := by simp [fst8, hb, hc]
    rw [← hl _ hf.symm]
    simp only [byFG2, byFG4, fillG_nat, e, f1 64 (.inr rfl), f0 (x.a + 64) (by omega) (by omega)]
    rfl
  · refine bif_step rfl (bif_stepF rfl ?_)
    refine bif_step s1 (bif_step s2 (bif_step (byFC2 _) ?_))
    (refine bif_step (decide_eq_true (by (simp only [List.length_append, List.length_cons, List.length_nil, List.length_replicate, u8s_len, be_len, dataL_len, byl2, byl4, byl8, roomB_nat, maxLen_val, Nat.mul_one, true_and, and_true, true_or, or_true, eq_self, Nat.zero_add] <;> omega))) ?_)
    refine bif_step (byFC2 _) ?_
    (refine bif_step (decide_eq_true (by (simp only [List.length_append, List.length_cons, List.length_nil, List.length_replicate, u8s_len, be_len, dataL_len, byl2, byl4, byl8, roomB_nat, maxLen_val, Nat.mul_one, true_and, and_true, true_or, or_true, eq_self, Nat.zero_add] <;> omega))) ?_)
    (refine bif_step (decide_eq_true (by (simp only [List.length_append, List.length_cons, List.length_nil, List.length_replicate, u8s_len, be_len, dataL_len, byl2, byl4, byl8, roomB_nat, maxLen_val, Nat.mul_one, true_and, and_true, true_or, or_true, eq_self, Nat.zero_add] <;> omega))) ?_)
    refine bif_step (byFC4 _) ?_
    (refine bif_step (decide_eq_true (by (simp only [List.length_append, List.length_cons, List.length_nil, List.length_replicate, u8s_len, be_len, dataL_len, byl2, byl4, byl8, roomB_nat, maxLen_val, Nat.mul_one, true_and, and_true, true_or, or_true, eq_self, Nat.zero_add] <;> omega))) ?_)
    refine bif_step (byFC4 _) ?_
    (refine bif_step (decide_eq_true (by (simp only [List.length_append, List.length_cons, List.length_nil, List.length_replicate, u8s_len, be_len, dataL_len, byl2, byl4, byl8, roomB_nat, maxLen_val, Nat.mul_one, true_and, and_true, true_or, or_true, eq_self, Nat.zero_add] <;> omega))) ?_)
    refine bif_step r1 ?_
    (refine bif_step (decide_eq_true (by (simp only [List.length_append, List.length_cons, List.length_nil, List.length_replicate, u8s_len, be_len, dataL_len, byl2, byl4, byl8, roomB_nat, maxLen_val, Nat.mul_one, true_and, and_true, true_or, or_true, eq_self, Nat.zero_add] <;> omega))) ?_)
    refine bif_step r2 ?_
    (refine bif_step (decide_eq_true (by (simp only [List.length_append, List.length_cons, List.length_nil, List.length_replicate, u8s_len, be_len, dataL_len, byl2, byl4, byl8, roomB_nat, maxLen_val, Nat.mul_one, true_and, and_true, true_or, or_true, eq_self, Nat.zero_add] <;> omega))) ?_)
    have hf : fst8 x = x.a + 128 := by simp [fst8, hb, hc]
    rw [← hl _ hf.symm]
    simp only [byFG2, byFG4, fillG_nat, e, f1 128 (.inl rfl), f0 (x.a + 128) (by omega) (by omega)]
    rfl
  · refine bif_step rfl (bif_step rfl ?_)
    refine bif_step s1 (bif_step s2 (bif_step (byFC2 _) ?_))
    (refine bif_step (decide_eq_true (by (simp only [List.length_append, List.length_cons, List.length_nil, List.length_replicate, u8s_len, be_len, dataL_len, byl2, byl4, byl8, roomB_nat, maxLen_val, Nat.mul_one, true_and, and_true, true_or, or_true, eq_self, Nat.zero_add] <;> omega))) ?_)
    refine bif_step (byFC2 _) ?_
    (refine bif_step (decide_eq_true (by (simp only [List.length_append, List.length_cons, List.length_nil, List.length_replicate, u8s_len, be_len, dataL_len, byl2, byl4, byl8, roomB_nat, maxLen_val, Nat.mul_one, true_and, and_true, true_or, or_true, eq_self, Nat.zero_add] <;> omega))) ?_)
    (refine bif_step (decide_eq_true (by (simp only [List.length_append, List.length_cons, List.length_nil, List.length_replicate, u8s_len, be_len, dataL_len, byl2, byl4, byl8, roomB_nat, maxLen_val, Nat.mul_one, true_and, and_true, true_or, or_true, eq_self, Nat.zero_add] <;> omega))) ?_)
    refine bif_step (byFC4 _) ?_
    (refine bif_step (decide_eq_true (by (simp only [List.length_append, List.length_cons, List.length_nil, List.length_replicate, u8s_len, be_len, dataL_len, byl2, byl4, byl8, roomB_nat, maxLen_val, Nat.mul_one, true_and, and_true, true_or, or_true, eq_self, Nat.zero_add] <;> omega))) ?_)
    refine bif_step (byFC4 _) ?_
    (refine bif_step (decide_eq_true (by (simp only [List.length_append, List.length_cons, List.length_nil, List.length_replicate, u8s_len, be_len, dataL_len, byl2, byl4, byl8, roomB_nat, maxLen_val, Nat.mul_one, true_and, and_true, true_or, or_true, eq_self, Nat.zero_add] <;> omega))) ?_)
    refine bif_step r1 ?_
    (refine bif_step (decide_eq_true (by (simp only [List.length_append, List.length_cons, List.length_nil, List.length_replicate, u8s_len, be_len, dataL_len, byl2, byl4, byl8, roomB_nat, maxLen_val, Nat.mul_one, true_and, and_true, true_or, or_true, eq_self, Nat.zero_add] <;> omega))) ?_)
    refine bif_step r2 ?_
    (refine bif_step (decide_eq_true (by (simp only [List.length_append, List.length_cons, List.length_nil, List.length_replicate, u8s_len, be_len, dataL_len, byl2, byl4, byl8, roomB_nat, maxLen_val, Nat.mul_one, true_and, and_true, true_or, or_true, eq_self, Nat.zero_add] <;> omega))) ?_)
    have hf : fst8 x = x.a + 128 + 64 := by simp [fst8, hb, hc]
    rw [← hl _ hf.symm]
    simp only [byFG2, byFG4, fillG_nat, e, f1 128 (.inl rfl), f2, f0 (x.a + 128 + 64) (by omega) (by omega)]
    rfl
end
end Go.Proofs.Ytphddjolipaejaa
