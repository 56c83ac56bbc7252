/- Values are read, in plain words: what is read is right, and its bytes are those that stood there. It bears no condition. -/
import Derived.Test.YtolpgbgmldpneaaDtE
namespace Go.Proofs.Ytolpgbgmldpneaa
open Go Go.Im
set_option linter.unusedVariables false
set_option linter.unusedSimpArgs false
set_option maxRecDepth 20000
noncomputable section

theorem num_mk (n : Nd) : n.num = 1 + nums n.kids := by cases n; unfold Nd.num; rfl
theorem nums_cons (k : Nd) (ks : List Nd) : nums (k :: ks) = k.num + nums ks := by conv => lhs; unfold nums
/-- What is read from a place on. -/
structure Good (b : List UInt8) (l e a k : Nat) (r : Vp) (x : Nd) (p : Nat) : Prop where
  eq : r = ⟨true, x, a + p, k + x.num, 0, 0⟩
  two : 2 ≤ p
  fit : a + p ≤ e
  num : k + x.num ≤ 4096
  wr : cutB b a p = x.wr
  wel : x.wel = true
  dp : x.dp ≤ l
  sz : x.sz ≤ 8 * p
structure GoodL (b : List UInt8) (l stop a k : Nat) (r : Vl) (acc ks : List Nd) : Prop where
  eq : r = ⟨true, acc ++ ks, stop, k + nums ks, 0, 0⟩
  num : k + nums ks ≤ 4096
  wr : cutB b a (stop - a) = wrs ks
  wel : wels ks = true
  dp : dps ks ≤ l
  sz : szs ks ≤ 8 * (stop - a)
theorem vLoop_ok {b : List UInt8} {l stop : Nat} {val : Nat → Nat → Vp} (H : ∀ a k, a < stop → (val a k).ok = true → k ≤ 4096 → ∃ x p, Good b l stop a k (val a k) x p) :
    ∀ (f : Nat) (acc : List Nd) (a k : Nat), stop - a ≤ f → a ≤ stop → k ≤ 4096 → (vLoop val stop f acc a k).ok = true → ∃ ks, GoodL b l stop a k (vLoop val stop f acc a k) acc ks
  | 0, acc, a, k, h1, h2, h3, h => by
    obtain rfl : a = stop := by omega
    exact ⟨[], ⟨by unfold vLoop; simp [nums], by simpa [nums] using h3, by rw [Nat.sub_self]; rfl, rfl, by simp [dps], by simp [szs]⟩⟩
  | f + 1, acc, a, k, h1, h2, h3, h => by
    unfold vLoop at h ⊢
    by_cases ha : a < stop
    case neg =>
      obtain rfl : a = stop := by omega
      rw [if_neg ha]
      exact ⟨[], ⟨by simp [nums], by simpa [nums] using h3, by rw [Nat.sub_self]; rfl, rfl, by simp [dps], by simp [szs]⟩⟩
    rw [if_pos ha] at h ⊢
    by_cases hv : (val a k).ok = true
    case neg => rw [if_neg hv] at h; cases h
    rw [if_pos hv] at h ⊢
    obtain ⟨x, p, g⟩ := H a k ha hv h3
    rw [g.eq] at h ⊢
    simp only at h ⊢
    have g2 := g.two
    have g3 := g.fit
    obtain ⟨ks, q⟩ := vLoop_ok H f _ _ _ (by omega) g.fit g.num h
    refine ⟨x :: ks, ⟨?_, ?_, ?_, ?_, ?_, ?_⟩⟩
    · rw [q.eq, List.append_assoc, nums_cons, ← Nat.add_assoc]
      rfl
    · have := q.num
      rw [nums_cons]
      omega
    · rw [show stop - a = p + (stop - (a + p)) by omega, cut_app, g.wr, q.wr]
      rfl
    · unfold wels; rw [g.wel, q.wel]; rfl
    · unfold dps
      exact Nat.max_le.2 ⟨g.dp, q.dp⟩
    · unfold szs
      have := g.sz
      have := q.sz
      omega
theorem tag_int (x : UInt8) : u8of (x.toNat : Int) = x := u8of_nat x
theorem many_tag {t : Int} (h : gMany t = true) : t = 48 ∨ t = 49 := by
  unfold gMany at h
  cases h48 : t == 48
  · rw [h48, cond_false] at h
    exact .inr (eq_of_beq h)
  · exact .inl (eq_of_beq h48)
theorem vF_ok {b : List UInt8} (hb : b.length ≤ 100000) : ∀ (l e a k : Nat), e ≤ b.length → k ≤ 4096 → (vF b l e a k).ok = true → ∃ x p, Good b l e a k (vF b l e a k) x p
  | 0, e, a, k, he, hk, h => by
    exfalso
    unfold vF at h
    split at h
    · split at h <;> cases h
    · cases h
  | l + 1, e, a, k, he, hk, h => by
    have ih := fun e' a' k' h1 h2 h3 => vF_ok hb l e' a' k' h1 h2 h3
    unfold vF at h ⊢
    by_cases h1 : a < b.length
    case neg => rw [dif_neg h1] at h; cases h
    rw [dif_pos h1] at h ⊢
    by_cases h2 : tagB b[a].toNat = true
    case neg => rw [if_neg h2] at h; cases h
    rw [if_pos h2] at h ⊢
    by_cases h3 : k = 4096
    · rw [if_pos h3] at h; cases h
    rw [if_neg h3] at h ⊢
    unfold vBody at h ⊢
    by_cases h4 : (szF b e (a + 1)).ok = true
    case neg => rw [if_neg h4] at h; cases h
    rw [if_pos h4] at h ⊢
    obtain ⟨N, p, e1, e2, e3, e4, e5, e6⟩ := szF_ok h4
    rw [e1] at h ⊢
    have hc : cutB b a (1 + p + N) = b[a] :: (lenB N ++ cutB b (a + 1 + p) N) := by
      rw [Nat.add_assoc, Nat.add_comm 1, cut_succ h1, cut_app, e5]
    have hcl : (cutB b (a + 1 + p) N).length = N := cut_len (by omega)
    by_cases h5 : gMany (b[a].toNat : Int) = true
    · rw [if_pos h5] at h ⊢
      unfold vMany at h ⊢
      simp only at h ⊢
      unfold vEnd at h ⊢
      by_cases h6 : (vLoop (vF b l (a + 1 + p + N)) (a + 1 + p + N) N [] (a + 1 + p) (k + 1)).ok = true
      case neg => rw [if_neg h6] at h; cases h
      rw [if_pos h6] at h ⊢
      obtain ⟨ks, q⟩ := vLoop_ok (b := b) (l := l) (fun a' k' ha ho hk' => ih (a + 1 + p + N) a' k' (by omega) hk' ho) N [] (a + 1 + p) (k + 1) (by omega) (by omega) (by omega) h6
      have qe := q.eq
      rw [List.nil_append] at qe
      rw [qe] at h ⊢
      simp only at h ⊢
      by_cases h7 : (b[a].toNat : Int) = 49 ∧ adjB leB ks = false
      · rw [if_pos h7] at h; cases h
      rw [if_neg h7]
      have qw := q.wr
      have qs := q.sz
      have qn := q.num
      rw [Nat.add_sub_cancel_left] at qw qs
      refine ⟨.mk (b[a].toNat : Int) [] ks, 1 + p + N, ⟨?_, by omega, by omega, ?_, ?_, ?_, ?_, ?_⟩⟩
      · rw [num_mk]
        simp only [Nd.kids, Vp.mk.injEq, true_and, and_true]
        omega
      · rw [num_mk]
        simp only [Nd.kids]
        omega
      · rw [hc, wr_mk]
        simp only [Nd.tag, Nd.bytes, Nd.kids, List.nil_append]
        rw [← qw, hcl, tag_int]
      · rw [wel_mk]
        simp only [Nd.tag, Nd.bytes, Nd.kids]
        rw [h5, q.wel]
        simp only [Bool.not_true, cond_false, Bool.true_and, List.isEmpty_nil]
        rcases many_tag h5 with h8 | h8
        · rw [h8]; rfl
        · have : adjB leB ks = true := by
            cases hj : adjB leB ks
            · exact absurd ⟨h8, hj⟩ h7
            · rfl
          rw [this, Bool.or_true]
      · rw [dp_mk]
        have := q.dp
        simp only [Nd.kids]
        omega
      · rw [sz_mk]
        simp only [Nd.bytes, Nd.kids, List.length_nil]
        omega
    · rw [if_neg h5] at h ⊢
      unfold vLeaf at h ⊢
      simp only at h ⊢
      by_cases h6 : fitsB (b[a].toNat : Int) (cutB b (a + 1 + p) N) = true
      case neg => rw [if_neg h6] at h; cases h
      rw [if_pos h6]
      refine ⟨.mk (b[a].toNat : Int) (cutB b (a + 1 + p) N) [], 1 + p + N, ⟨?_, by omega, by omega, ?_, ?_, ?_, ?_, ?_⟩⟩
      · rw [num_mk]
        simp only [Nd.kids, nums, Vp.mk.injEq, true_and, and_true]
        omega
      · rw [num_mk]
        simp only [Nd.kids, nums]
        omega
      · rw [hc, wr_mk]
        simp only [Nd.tag, Nd.bytes, Nd.kids, wrs, List.append_nil]
        rw [hcl, tag_int]
      · rw [wel_mk]
        simp only [Nd.tag, Nd.bytes, Nd.kids]
        rw [h6, show gMany (b[a].toNat : Int) = false by simpa using h5]
        rfl
      · rw [dp_mk]
        simp only [Nd.kids, dps]
        omega
      · rw [sz_mk]
        simp only [Nd.bytes, Nd.kids, szs]
        omega

/-! ### Where it fails -/
theorem szD_no {L e bg n a : Nat} (h : (szD L e bg n a).ok = false) (hb : bg ≤ L) : (szD L e bg n a).fa ≤ L ∧ (szD L e bg n a).fc ≠ 0 := by
  unfold szD at h ⊢
  (repeat' split) <;> simp_all
theorem szM_no {b : List UInt8} {e bg : Nat} (hb : bg ≤ b.length) : ∀ (k n a : Nat), (szM b e bg k n a).ok = false → (szM b e bg k n a).fa ≤ b.length ∧ (szM b e bg k n a).fc ≠ 0
  | 0, n, a, h => szD_no h hb
  | k + 1, n, a, h => by
    have ih := szM_no (e := e) hb k
    have hu : szM b e bg (k + 1) n a = if h : a < b.length then
      if n * 256 + b[a].toNat = 0 then ⟨false, 0, a + 1, bg, 71⟩ else
      if 0 < k then szM b e bg k (n * 256 + b[a].toNat) (a + 1) else
      if n * 256 + b[a].toNat < 128 then ⟨false, 0, a + 1, bg, 71⟩ else szD b.length e bg (n * 256 + b[a].toNat) (a + 1)
    else ⟨false, 0, a, b.length, 72⟩ := by conv => lhs; unfold szM
    rw [hu] at h ⊢
    by_cases h1 : a < b.length
    case neg => rw [dif_neg h1]; exact ⟨Nat.le_refl _, by simp⟩
    rw [dif_pos h1] at h ⊢
    by_cases h2 : n * 256 + b[a].toNat = 0
    · rw [if_pos h2]; exact ⟨hb, by simp⟩
    rw [if_neg h2] at h ⊢
    by_cases h3 : 0 < k
    · rw [if_pos h3] at h ⊢; exact ih _ _ h
    rw [if_neg h3] at h ⊢
    by_cases h4 : n * 256 + b[a].toNat < 128
    · rw [if_pos h4]; exact ⟨hb, by simp⟩
    rw [if_neg h4] at h ⊢
    exact szD_no h hb
theorem szF_no {b : List UInt8} {e a : Nat} (ha : a ≤ b.length) (h : (szF b e a).ok = false) : (szF b e a).fa ≤ b.length ∧ (szF b e a).fc ≠ 0 := by
  unfold szF at h ⊢
  by_cases h1 : a < b.length
  case neg => rw [dif_neg h1]; exact ⟨Nat.le_refl _, by simp⟩
  rw [dif_pos h1] at h ⊢
  by_cases h2 : b[a].toNat < 128
  · rw [if_pos h2] at h ⊢; exact szD_no h ha
  rw [if_neg h2] at h ⊢
  by_cases h3 : b[a].toNat % 128 = 0 ∨ b[a].toNat % 128 > 4
  · rw [if_pos h3]; exact ⟨ha, by simp⟩
  rw [if_neg h3] at h ⊢
  exact szM_no ha _ _ _ h
theorem vLoop_no {b : List UInt8} {stop : Nat} {val : Nat → Nat → Vp} (H : ∀ a k, (val a k).ok = false → (val a k).x = z0 ∧ (val a k).fa ≤ b.length ∧ (val a k).fc ≠ 0) :
    ∀ (f : Nat) (acc : List Nd) (a k : Nat), (vLoop val stop f acc a k).ok = false → (vLoop val stop f acc a k).fa ≤ b.length ∧ (vLoop val stop f acc a k).fc ≠ 0
  | 0, acc, a, k, h => by unfold vLoop at h; cases h
  | f + 1, acc, a, k, h => by
    unfold vLoop at h ⊢
    by_cases ha : a < stop
    case neg => rw [if_neg ha] at h; cases h
    rw [if_pos ha] at h ⊢
    by_cases hv : (val a k).ok = true
    · rw [if_pos hv] at h ⊢
      exact vLoop_no H f _ _ _ h
    · rw [if_neg hv]
      exact (H a k (by simpa using hv)).2
theorem vF_no {b : List UInt8} : ∀ (l e a k : Nat), (vF b l e a k).ok = false → (vF b l e a k).x = z0 ∧ (vF b l e a k).fa ≤ b.length ∧ (vF b l e a k).fc ≠ 0
  | 0, e, a, k, h => by
    unfold vF at h ⊢
    split
    · split <;> exact ⟨rfl, by simp only; omega, by simp⟩
    · exact ⟨rfl, by simp only; omega, by simp⟩
  | l + 1, e, a, k, h => by
    have ih := fun e' a' k' h1 => vF_no (b := b) l e' a' k' h1
    unfold vF at h ⊢
    by_cases h1 : a < b.length
    case neg => rw [dif_neg h1]; exact ⟨rfl, by simp only; omega, by simp⟩
    rw [dif_pos h1] at h ⊢
    by_cases h2 : tagB b[a].toNat = true
    case neg => rw [if_neg h2]; exact ⟨rfl, by simp only; omega, by simp⟩
    rw [if_pos h2] at h ⊢
    by_cases h3 : k = 4096
    · rw [if_pos h3]; exact ⟨rfl, by simp only; omega, by simp⟩
    rw [if_neg h3] at h ⊢
    unfold vBody at h ⊢
    by_cases h4 : (szF b e (a + 1)).ok = true
    case neg =>
      rw [if_neg h4]
      exact ⟨rfl, szF_no (by omega) (by simpa using h4)⟩
    rw [if_pos h4] at h ⊢
    by_cases h5 : gMany (b[a].toNat : Int) = true
    · rw [if_pos h5] at h ⊢
      unfold vMany at h ⊢
      unfold vEnd at h ⊢
      split
      · rename_i h6
        rw [if_pos h6] at h
        by_cases h7 : (b[a].toNat : Int) = 49 ∧ adjB leB (vLoop (vF b l ((szF b e (a + 1)).a + (szF b e (a + 1)).n)) ((szF b e (a + 1)).a + (szF b e (a + 1)).n) (szF b e (a + 1)).n [] (szF b e (a + 1)).a (k + 1)).ks = false
        · rw [if_pos h7]; exact ⟨rfl, by simp only; omega, by simp⟩
        · rw [if_neg h7] at h; cases h
      · rename_i h6
        exact ⟨rfl, vLoop_no (fun a' k' hh => ih _ a' k' hh) _ _ _ _ (by simpa using h6)⟩
    · rw [if_neg h5] at h ⊢
      unfold vLeaf at h ⊢
      split
      · rename_i h6
        rw [if_pos h6] at h; cases h
      · exact ⟨rfl, by simp only; omega, by simp⟩
end
end Go.Proofs.Ytolpgbgmldpneaa
