/- The document's Cluster and Combine: what the given program does. It bears no condition. -/
import Derived.Test.YtfcedalbamafiaaCiU
namespace Go.Proofs.Ytfcedalbamafiaa
open Go Go.Im
set_option linter.unusedVariables false
set_option linter.unusedSimpArgs false
noncomputable section

theorem rl_fills {xs : List IV} {nl nl' : Option Bool} {cl cl' : Bool} {ys : List IV} {least : Int} (hs : xs.length ≤ 1000) {sp : FuncId → Option SpecF} :
    EachOK Try.prog hint (acall Try.prog hint (ovrOf sp)) 0 (hint.kp 21) (loopAt Try.prog 21 122) (Sx 21 (rlV nl cl xs nl' cl' ys least ((0 : Nat) : Int) .undef .undef .undef) [.row 0 false 1 (I64 (rng 0))]) (.exit 0)
      (fun _ : Unit => Sx 21 (rl0 nl cl xs nl' cl' ys least) [.row 0 false 1 (I64 (rng xs.length))]) (foldE (fun (_ : Nat) (_ : Unit) (_ : IV) => (Sum.inl () : Unit ⊕ (Ex × St))) 0 () xs) := by
  refine runs_each (X := Unit) (l := xs) (n := 30) (ls := fun _ _ => none) loops_none inner0 (fun i _ => Sx 21 (rlV nl cl xs nl' cl' ys least (i : Int) .undef .undef .undef) [.row 0 false 1 (I64 (rng i))]) _
    (fun _ _ => True) (by simp) ?_ ?_ xs.length 0 () (by omega) trivial
  · intro i _ hi _
    refine .inl ⟨(), rfl, ?_, trivial⟩
    have ht := rl_fl sp nl cl xs nl' cl' ys (I64 (rng i)) least i
    rw [wadd1 (by omega), I64_len, rng_len] at ht
    refine ht.trans (bif_step (decide_eq_true (by omega)) (bif_step (decide_eq_true ?_) ?_))
    · rw [roomB_nat, maxLen_val]
      simp only [List.length_cons, List.length_nil]
      omega
    · have e : I64 (rng (i + 1)) = I64 (rng i) ++ [IV.int .i64 (i : Int)] := by unfold I64; rw [rng_succ, List.map_append]; rfl
      rw [e]
  · intro _ _
    have ht := rl_fl sp nl cl xs nl' cl' ys (I64 (rng xs.length)) least xs.length
    exact ht.trans (bif_stepF (decide_eq_false (by omega)) rfl)
abbrev tabU' : FuncId → Option SpecF := tabU cF fitB cS wS
theorem tabU_ok : ∀ f F, tabU' f = some F → Known Try.prog hint f F := tab_cons (fitQ_known rfit_known) (tab_cons st_known tab_nil)
abbrev NU : Nat → CallF := acall Try.prog hint (ovrOf tabU')
theorem nthI_get {ks : List Int} {i : Nat} (h : i < ks.length) : nthI ks (i : Int) = ks[i] := by
  unfold nthI
  rw [Int.toNat_natCast, List.getD_eq_getElem?_getD, List.getElem?_eq_getElem h]; rfl
theorem cS_of {zs ks : List Int} (hz : Sm zs) (hk : Pl zs.length ks) {a : Int} (h : 0 ≤ a ∧ a < (ks.length : Int)) : cS (I64 zs) (I64 ks) a = true := by
  unfold cS
  rw [okZ_of hz hk, I64_len, decide_eq_true h]; rfl
theorem wS_of (zs ks : List Int) (a : Int) : wS (I64 zs) (I64 ks) a = wor zs ks (nthI ks a) := by unfold wS; rw [toInts_I64, toInts_I64]
theorem rl_runs {zs ds ks : List Int} (hz : Sm zs) (hk : Pl zs.length ks) (hl : zs.length = ds.length) (hne : ks ≠ []) {nl nl' : Option Bool} {cl cl' : Bool} {least n : Int} :
    EachOK Try.prog hint NU 0 (hint.kp 21) (loopAt Try.prog 21 15914) (Sx 21 (rlV nl cl (I64 zs) nl' cl' (I64 ds) least n (.int .i64 0) (.int .i64 (nthI ds (nthI ks 0))) (.int .i64 ((0 + 1 : Nat) : Int))) [.row 0 false 1 (I64 ks)]) (.exit 4)
      (fun s : Int × Int => Sx 21 (rlV nl cl (I64 zs) nl' cl' (I64 ds) least n (.int .i64 s.1) (.int .i64 s.2) (.int .i64 (ks.length : Int))) [.row 0 false 1 (I64 ks)]) (foldE (fun j s x => (Sum.inl (rfS zs ds ks (j + 1) s x) : (Int × Int) ⊕ (Ex × St))) 0 (0, nthI ds (nthI ks 0)) ks.tail) := by
  have hlt : ks.tail.length + 1 = ks.length := by cases ks with
    | nil => exact absurd rfl hne
    | cons => rfl
  refine runs_each (X := Int × Int) (l := ks.tail) (n := 30) (ls := fun _ _ => none) loops_none inner0 (fun j s => Sx 21 (rlV nl cl (I64 zs) nl' cl' (I64 ds) least n (.int .i64 s.1) (.int .i64 s.2) (.int .i64 ((j + 1 : Nat) : Int))) [.row 0 false 1 (I64 ks)]) _
    (fun _ s => 0 ≤ s.1 ∧ s.1 < (ks.length : Int)) (by simp) ?_ ?_ ks.tail.length 0 (0, nthI ds (nthI ks 0)) (by omega) ⟨Int.le_refl _, by simp only []; omega⟩
  · intro j s hj hs
    have hj1 : j + 1 < ks.length := by omega
    have hx : ks.tail[j] = ks[j + 1] := by rw [List.getElem_tail]
    rw [hx]
    refine .inl ⟨_, rfl, ?_, by simp only [rfS]; split <;> omega⟩
    have ht := rl_in cF fitB cS wS nl cl (I64 zs) nl' cl' (I64 ds) (I64 ks) least n s.1 s.2 ((j + 1 : Nat) : Int)
    have hki := hk.at hj1
    rw [hl] at hki
    have hlen := hk.1
    rw [nthN hj1, io1, nthZ hki.1 hki.2, io2, I64_len, I64_len, wadd1 (by omega), wS_of, wS_of, nthI_get hj1] at ht
    replace ht := fun r h => ht.trans (bif_step (r := r) (decide_eq_true (by omega)) (bif_step (cS_of hz hk ⟨by omega, by omega⟩) (bif_step (cS_of hz hk hs) h)))
    have c1 : (0 : Int) ≤ ((j + 1 : Nat) : Int) ∧ ((j + 1 : Nat) : Int) < (ks.length : Int) := ⟨by omega, by omega⟩
    have c2 : (((j + 1 : Nat) : Int)).toNat < ks.length := by omega
    unfold rfS nrS
    by_cases hw : wor zs ks ks[j + 1] ≥ wor zs ks (nthI ks s.1)
    · rw [if_pos hw]
      replace ht := fun r h => ht r (bif_step (decide_eq_true hw) (bif_step (decide_eq_true c1) (bif_step (decide_eq_true c2) (bif_step rfl (bif_step (decide_eq_true ⟨rfl, hki.1, hki.2⟩) (bif_step rfl h))))))
      by_cases hd : nthI ds ks[j + 1] < s.2
      · rw [if_pos hd]
        exact ht _ (bif_step (decide_eq_true hd) (bif_step (decide_eq_true c1) (bif_step (decide_eq_true c2) (bif_step rfl (bif_step (decide_eq_true ⟨rfl, hki.1, hki.2⟩) (bif_step rfl rfl))))))
      · rw [if_neg hd]
        exact ht _ (bif_stepF (decide_eq_false hd) rfl)
    · rw [if_neg hw]
      replace ht := fun r h => ht r (bif_stepF (decide_eq_false hw) (bif_step (decide_eq_true c1) (bif_step (decide_eq_true c2) (bif_step rfl (bif_step (decide_eq_true ⟨rfl, hki.1, hki.2⟩) (bif_step rfl h))))))
      by_cases hd : nthI ds ks[j + 1] < s.2
      · rw [if_pos hd]
        exact ht _ (bif_step (decide_eq_true hd) (bif_step (decide_eq_true c1) (bif_step (decide_eq_true c2) (bif_step rfl (bif_step (decide_eq_true ⟨rfl, hki.1, hki.2⟩) (bif_step rfl rfl))))))
      · rw [if_neg hd]
        exact ht _ (bif_stepF (decide_eq_false hd) rfl)
  · intro s hs
    have ht := rl_in cF fitB cS wS nl cl (I64 zs) nl' cl' (I64 ds) (I64 ks) least n s.1 s.2 ((ks.tail.length + 1 : Nat) : Int)
    rw [hlt, I64_len] at ht
    rw [hlt]
    exact ht.trans (bif_stepF (decide_eq_false (by omega)) rfl)
theorem ifold_shift {X V : Type} (f : Nat → X → V → X) : ∀ (l : List V) (i : Nat) (x : X), ifold (fun j => f (j + 1)) i x l = ifold f (i + 1) x l
  | [], _, _ => rfl
  | v :: l, i, x => ifold_shift f l (i + 1) (f (i + 1) x v)
theorem nthD_zero {ks : List Int} (h : ks ≠ []) : nthD (I64 ks) 0 = .int .i64 (nthI ks 0) := by
  cases ks with
  | nil => exact absurd rfl h
  | cons x t => rfl
theorem near_eq {ds ks : List Int} (h : ks ≠ []) (hk : 0 ≤ nthI ks 0 ∧ nthI ks 0 < (ds.length : Int)) : nearX (I64 ds) (I64 ks) = nthI ds (nthI ks 0) := by
  unfold nearX
  rw [nthD_zero h, io1, nthZ hk.1 hk.2, io2]
theorem in124' : loopsOf (2 * 124) (loopAt Try.prog 21 124) = [(15914, itemAt Try.prog 21 15914)] := by kernel_rfl
abbrev rlL (nl : Option Bool) (cl : Bool) (zs : List Int) (nl' : Option Bool) (cl' : Bool) (ds ks : List Int) (least n : Int) : FuncId → Nat → Option LoopF :=
  ltab [(21, 15914, LF 21 0 (oneF (rlV nl cl (I64 zs) nl' cl' (I64 ds) least n (.int .i64 0) (.int .i64 (nearX (I64 ds) (I64 ks))) (.int .i64 1)) [.row 0 false 1 (I64 ks)] (.exit 4)
    (rlV nl cl (I64 zs) nl' cl' (I64 ds) least n (.int .i64 (rf zs ds ks).1) (.int .i64 (rf zs ds ks).2) (.int .i64 (ks.length : Int))) [.row 0 false 1 (I64 ks)]))]
theorem rlL_ok {zs ds ks : List Int} (hz : Sm zs) (hk : Pl zs.length ks) (hl : zs.length = ds.length) (hne : ks ≠ []) {nl nl' : Option Bool} {cl cl' : Bool} {least n : Int} : LoopsOK Try.prog hint NU (rlL nl cl zs nl' cl' ds ks least n) ∧
    ItemsOK Try.prog hint NU (itOf Try.prog hint NU) (rlL nl cl zs nl' cl' ds ks least n 21) (hint.kp 21) (2 * 124) (loopAt Try.prog 21 124) := by
  have h1 : LoopOK Try.prog hint NU (itOf Try.prog hint NU) (hint.kp 21) (itemAt Try.prog 21 15914) (LF 21 0 (oneF (rlV nl cl (I64 zs) nl' cl' (I64 ds) least n (.int .i64 0) (.int .i64 (nearX (I64 ds) (I64 ks))) (.int .i64 1)) [.row 0 false 1 (I64 ks)] (.exit 4)
    (rlV nl cl (I64 zs) nl' cl' (I64 ds) least n (.int .i64 (rf zs ds ks).1) (.int .i64 (rf zs ds ks).2) (.int .i64 (ks.length : Int))) [.row 0 false 1 (I64 ks)])) := by
    refine loopF_ok fun vs bx e vs' bx' hm => ?_
    obtain ⟨rfl, rfl, rfl, rfl, rfl⟩ := oneF_mem hm
    have q := rl_runs hz hk hl hne (nl := nl) (nl' := nl') (cl := cl) (cl' := cl') (least := least) (n := n)
    rw [foldE_if, ifold_shift (rfS zs ds ks)] at q
    have h0 : 0 < ks.length := List.length_pos_iff.2 hne
    have hk0 := hk.at h0
    rw [hl, ← nthI_get h0] at hk0
    rw [near_eq hne hk0]
    exact q
  refine ⟨ltab_cons (by kernel_rfl) h1 ltab_nil, ?_⟩
  intro x hx F hF
  rw [in124', List.mem_singleton] at hx
  subst hx
  cases hF
  exact h1
/-- The round's row behind a stroke. -/
theorem cut_iv (ks : List Int) {a : Int} (h0 : 0 ≤ a) (h1 : a < (ks.length : Int)) (hlen : ks.length ≤ 64) :
    [] ++ List.take (a.toNat - 0) (List.drop 0 (I64 ks)) ++ List.take (((I64 ks).length : Int).toNat - (IntKind.i64.wrap (a + 1)).toNat) (List.drop (IntKind.i64.wrap (a + 1)).toNat (I64 ks)) = I64 (cut ks a) := by
  rw [i64s (by omega), List.nil_append, List.drop_zero, Nat.sub_zero, show (a + 1).toNat = a.toNat + 1 by omega]
  rw [List.take_of_length_le (l := List.drop (a.toNat + 1) (I64 ks)) (by rw [List.length_drop, I64_len]; omega)]
  unfold cut I64
  rw [List.map_append, List.map_take, List.map_drop]
theorem stop_eq' {zs ds ks : List Int} (hd : Nr ds) (hne : ks ≠ []) (hlen : ks.length ≤ 64) : decide (wS (I64 zs) (I64 ks) (rf zs ds ks).1 ≤ IntKind.i64.wrap ((rf zs ds ks).2 * IntKind.i64.wrap (((I64 ks).length : Int) - 1))) = stopB zs ds ks := by
  obtain ⟨g1, g2⟩ := gr_eq (zs := zs) (ds := ds) hne (fun k => (hd.nth k).2)
  rw [← stop_eq hd hlen, ← g2, wS_of]
  unfold gbS
  rw [toInts_I64, toInts_I64, g1]
def RE2 (nl : Option Bool) (cl : Bool) (xs : List IV) (nl' : Option Bool) (cl' : Bool) (ys : List IV) (least : Int) (e : Ex) (vs : List IV) : Prop :=
  (∃ a b c, e = .exit 2 ∧ vs = rl1 nl cl xs nl' cl' ys least a b c) ∨ ∃ a b c, e = .ret ∧ vs = rl2 nl cl xs nl' cl' ys least a b c
theorem no_ok : LoopsOK Try.prog hint NU (ltab [(21, 15914, noL)]) ∧ ItemsOK Try.prog hint NU (itOf Try.prog hint NU) (ltab [(21, 15914, noL)] 21) (hint.kp 21) (2 * 124) (loopAt Try.prog 21 124) := by
  have h1 : LoopOK Try.prog hint NU (itOf Try.prog hint NU) (hint.kp 21) (itemAt Try.prog 21 15914) noL := fun p s e s' h => by cases h
  refine ⟨ltab_cons (by kernel_rfl) h1 ltab_nil, fun x hx F hF => ?_⟩
  rw [in124', List.mem_singleton] at hx
  subst hx
  cases hF
  exact h1
theorem rl_outs {zs ds : List Int} (hz : Sm zs) (hd : Nr ds) (hl : zs.length = ds.length) {nl nl' : Option Bool} {cl cl' : Bool} {least : Int} (h1 : 1 ≤ least) : ∀ (n : Nat) (ks : List Int), ks.length ≤ n → Pl zs.length ks → ∀ a b c : Int,
    ∃ ex vs, RE2 nl cl (I64 zs) nl' cl' (I64 ds) least ex vs ∧ Runs Try.prog hint NU 0 (hint.kp 21) (loopAt Try.prog 21 124) (Sx 21 (rl1 nl cl (I64 zs) nl' cl' (I64 ds) least a b c) [.row 0 false 1 (I64 ks)]) ex (Sx 21 vs [.row 0 false 1 (I64 (clu zs ds least n ks))]) := by
  intro n
  induction n with
  | zero =>
    intro ks hn hk a b c
    have hr := rl_g1 nl cl (I64 zs) nl' cl' (I64 ds) (I64 ks) least (I64 zs).length a b c cF fitB cS wS
    exact ⟨_, _, .inl ⟨a, b, c, rfl, rfl⟩, Runs.last no_ok.1 no_ok.2 (by simp) (hr.trans (bif_stepF (decide_eq_false (by rw [I64_len]; omega)) rfl))⟩
  | succ n ih =>
    intro ks hn hk a b c
    unfold clu
    by_cases hg : (ks.length : Int) > least
    · rw [if_pos hg]
      have hne : ks ≠ [] := by rintro rfl; simp at hg; omega
      have h0 : 0 < ks.length := List.length_pos_iff.2 hne
      have hr := rl_r1 nl cl (I64 zs) nl' cl' (I64 ds) (I64 ks) least (I64 zs).length (rf zs ds ks).1 (rf zs ds ks).2 ks.length a b c cF fitB cS wS
      have hin := rfx_in (zs := zs) (ds := ds) hne
      obtain ⟨g1, g2⟩ := gr_eq (zs := zs) (ds := ds) hne (fun k => (hd.nth k).2)
      have hga : (gr zs ks).1 = (rf zs ds ks).1 := by rw [g1]
      have hlen := hk.1
      have hk0 : 0 ≤ nthI ks 0 ∧ nthI ks 0 < (ds.length : Int) := by
        have := hk.at h0
        rw [hl, ← nthI_get h0] at this
        exact this
      rw [nthD_zero hne, io1, nthZ hk0.1 hk0.2, cut_iv ks hin.1 hin.2 hlen] at hr
      have hok := rlL_ok hz hk hl hne (nl := nl) (nl' := nl') (cl := cl) (cl' := cl') (least := least) (n := (I64 zs).length)
      replace hr := fun r h => hr.trans (bif_step (r := r) (decide_eq_true (by rw [I64_len]; exact hg)) (bif_step (decide_eq_true ⟨by omega, by rw [I64_len]; omega⟩) (bif_step (decide_eq_true (by rw [I64_len]; exact h0)) (bif_step rfl (bif_step (decide_eq_true ⟨rfl, hk0.1, by rw [I64_len]; exact hk0.2⟩) (bif_step rfl (bif_step sameS_t (bif_step (cS_of hz hk hin) h))))))))
      by_cases hs : stopB zs ds ks = true
      · rw [if_pos hs]
        exact ⟨_, _, .inr ⟨_, _, _, rfl, rfl⟩, Runs.last hok.1 hok.2 (by simp) (hr _ (bif_step (by rw [stop_eq' hd hne hlen]; exact hs) rfl))⟩
      · rw [if_neg hs, hga]
        obtain ⟨ex, vs, hv, hrun⟩ := ih (cut ks (rf zs ds ks).1) (by rw [cut_len hin.1 hin.2]; omega) (hk.cut _) (rf zs ds ks).1 (rf zs ds ks).2 ks.length
        refine ⟨ex, vs, hv, Runs.step hok.1 hok.2 (hr _ (bif_stepF (by rw [stop_eq' hd hne hlen]; simpa using hs) (bif_step (decide_eq_true ?_) (bif_step (decide_eq_true ?_) (bif_step (decide_eq_true ?_) (bif_step (decide_eq_true ?_) rfl)))))) hrun⟩
        · rw [I64_len]; omega
        · rw [roomB_nat, maxLen_val, List.length_take, List.length_drop, I64_len]; omega
        · rw [i64s (by omega), I64_len]; omega
        · rw [roomB_nat, maxLen_val, List.nil_append, List.length_take, List.length_take, List.length_drop, List.length_drop, I64_len]; omega
    · rw [if_neg hg]
      have hr := rl_g1 nl cl (I64 zs) nl' cl' (I64 ds) (I64 ks) least (I64 zs).length a b c cF fitB cS wS
      exact ⟨_, _, .inl ⟨a, b, c, rfl, rfl⟩, Runs.last no_ok.1 no_ok.2 (by simp) (hr.trans (bif_stepF (decide_eq_false (by rw [I64_len]; exact hg)) rfl))⟩
theorem rl_outs0 {zs ds : List Int} (hz : Sm zs) (hd : Nr ds) (hl : zs.length = ds.length) {nl nl' : Option Bool} {cl cl' : Bool} {least : Int} (h1 : 1 ≤ least) (n : Nat) (ks : List Int) (hn : ks.length ≤ n) (hk : Pl zs.length ks) :
    ∃ ex vs, ((ex = .exit 2 ∧ vs = rl0 nl cl (I64 zs) nl' cl' (I64 ds) least) ∨ RE2 nl cl (I64 zs) nl' cl' (I64 ds) least ex vs) ∧ Runs Try.prog hint NU 0 (hint.kp 21) (loopAt Try.prog 21 124) (Sx 21 (rl0 nl cl (I64 zs) nl' cl' (I64 ds) least) [.row 0 false 1 (I64 ks)]) ex (Sx 21 vs [.row 0 false 1 (I64 (clu zs ds least n ks))]) := by
  by_cases hg : (ks.length : Int) > least
  · cases n with
    | zero => omega
    | succ n =>
      unfold clu
      rw [if_pos hg]
      have hne : ks ≠ [] := by rintro rfl; simp at hg; omega
      have h0 : 0 < ks.length := List.length_pos_iff.2 hne
      have hr := rl_r0 nl cl (I64 zs) nl' cl' (I64 ds) (I64 ks) least (I64 zs).length (rf zs ds ks).1 (rf zs ds ks).2 ks.length cF fitB cS wS
      have hin := rfx_in (zs := zs) (ds := ds) hne
      obtain ⟨g1, g2⟩ := gr_eq (zs := zs) (ds := ds) hne (fun k => (hd.nth k).2)
      have hga : (gr zs ks).1 = (rf zs ds ks).1 := by rw [g1]
      have hlen := hk.1
      have hk0 : 0 ≤ nthI ks 0 ∧ nthI ks 0 < (ds.length : Int) := by
        have := hk.at h0
        rw [hl, ← nthI_get h0] at this
        exact this
      rw [nthD_zero hne, io1, nthZ hk0.1 hk0.2, cut_iv ks hin.1 hin.2 hlen] at hr
      have hok := rlL_ok hz hk hl hne (nl := nl) (nl' := nl') (cl := cl) (cl' := cl') (least := least) (n := (I64 zs).length)
      replace hr := fun r h => hr.trans (bif_step (r := r) (decide_eq_true (by rw [I64_len]; exact hg)) (bif_step (decide_eq_true ⟨by omega, by rw [I64_len]; omega⟩) (bif_step (decide_eq_true (by rw [I64_len]; exact h0)) (bif_step rfl (bif_step (decide_eq_true ⟨rfl, hk0.1, by rw [I64_len]; exact hk0.2⟩) (bif_step rfl (bif_step sameS_t (bif_step (cS_of hz hk hin) h))))))))
      by_cases hs : stopB zs ds ks = true
      · rw [if_pos hs]
        exact ⟨_, _, .inr (.inr ⟨_, _, _, rfl, rfl⟩), Runs.last hok.1 hok.2 (by simp) (hr _ (bif_step (by rw [stop_eq' hd hne hlen]; exact hs) rfl))⟩
      · rw [if_neg hs, hga]
        obtain ⟨ex, vs, hv, hrun⟩ := rl_outs hz hd hl h1 n (cut ks (rf zs ds ks).1) (by rw [cut_len hin.1 hin.2]; omega) (hk.cut _) (rf zs ds ks).1 (rf zs ds ks).2 ks.length
        refine ⟨ex, vs, .inr hv, Runs.step hok.1 hok.2 (hr _ (bif_stepF (by rw [stop_eq' hd hne hlen]; simpa using hs) (bif_step (decide_eq_true ?_) (bif_step (decide_eq_true ?_) (bif_step (decide_eq_true ?_) (bif_step (decide_eq_true ?_) rfl)))))) hrun⟩
        · rw [I64_len]; omega
        · rw [roomB_nat, maxLen_val, List.length_take, List.length_drop, I64_len]; omega
        · rw [i64s (by omega), I64_len]; omega
        · rw [roomB_nat, maxLen_val, List.nil_append, List.length_take, List.length_take, List.length_drop, List.length_drop, I64_len]; omega
  · have e : clu zs ds least n ks = ks := clu_all (by omega) n
    rw [e]
    have hr := rl_g0 nl cl (I64 zs) nl' cl' (I64 ds) (I64 ks) least (I64 zs).length cF fitB cS wS
    exact ⟨_, _, .inl ⟨rfl, rfl⟩, Runs.last no_ok.1 no_ok.2 (by simp) (hr.trans (bif_stepF (decide_eq_false (by rw [I64_len]; exact hg)) rfl))⟩
theorem rcluster_known : Known Try.prog hint 21 (clP cCl gCl eCl) := by
  refine known_frz fits fun us T v T1 h => ?_
  unfold clP at h
  split at h
  case h_2 => cases h
  rename_i nl cl xs nl' cl' ys least
  simp only [List.mem_cons, List.not_mem_nil, or_false, Prod.mk.injEq, Bool.true_eq] at h
  obtain ⟨h1, rfl, rfl⟩ := h
  refine ⟨rfl, rfl, [[.fsl nl cl 1 xs, .fsl nl' cl' 1 ys, .int .i64 least]], by simp, Splits.self _, fun qs hq => ?_⟩
  rw [List.mem_singleton] at hq
  subst hq
  cases hok : (bif !fitB xs ys then true else decide (least < (1 : Int)))
  · have hfit : fitB xs ys = true := by cases hf : fitB xs ys with
      | true => rfl
      | false => rw [hf] at hok; cases hok
    have hle : 1 ≤ least := by rw [hfit] at hok; have := of_decide_eq_false hok; omega
    obtain ⟨hz, hd, hl, hf⟩ := fitP_sm (fitB_p hfit)
    obtain ⟨ex, ey⟩ := cF_iff h1
    have hA : gCl xs ys least = I64 (clu (toInts xs) (toInts ys) least (toInts xs).length (rng (toInts xs).length)) := by unfold gCl cluA okCl; rw [hok]; rfl
    have hE : eCl xs ys least = 0 := by unfold eCl okCl; rw [hok]; rfl
    rw [hA, hE]
    generalize hzs : toInts xs = zs at *
    generalize hds : toInts ys = ds at *
    subst ex ey
    obtain ⟨e, vs, hv, hrun⟩ := rl_outs0 hz hd hl (nl := nl) (nl' := nl') (cl := cl) (cl' := cl') hle zs.length (rng zs.length) (by rw [rng_len]; exact Nat.le_refl _) (Pl.rng hf)
    have q := rl_fills (xs := I64 zs) (nl := nl) (nl' := nl') (cl := cl) (cl' := cl') (ys := I64 ds) (least := least) (by rw [I64_len]; omega) (sp := tabU')
    rw [foldE_inl (g := fun (_ : Unit) (_ : IV) => ()) (fun _ _ _ => rfl), I64_len] at q
    have hls : LoopsOK Try.prog hint NU (rlF nl cl (I64 zs) nl' cl' (I64 ds) (I64 (rng zs.length)) least e vs [.row 0 false 1 (I64 (clu zs ds least zs.length (rng zs.length)))]) := by
      refine ltab_cons (by kernel_rfl) (loopF_ok fun vs bx e vs' bx' hm => ?_) (ltab_cons (by kernel_rfl) (loopF_ok fun vs bx e vs' bx' hm => ?_) ltab_nil)
      · obtain ⟨rfl, rfl, rfl, rfl, rfl⟩ := oneF_mem hm
        exact q
      · obtain ⟨rfl, rfl, rfl, rfl, rfl⟩ := oneF_mem hm
        exact hrun
    have fin : rlE nl cl (I64 zs) nl' cl' (I64 ds) (I64 (rng zs.length)) (I64 (clu zs ds least zs.length (rng zs.length))) least cF fitB = some (.tup [.osl 0 0, .int .i64 0], [.row 0 false 1 (I64 (clu zs ds least zs.length (rng zs.length)))]) := by
      unfold rlE clR
      exact bif_step h1 (bif_stepF hok (bif_step sameS_t (bif_step sameS_t rfl)))
    refine ⟨noGd_of rfl, tabU', _, tabU_ok, hls, 30, .tup [.osl 0 0, .int .i64 0], [.row 0 false 1 (I64 (clu zs ds least zs.length (rng zs.length)))], .tup [.fsl none false 1 (I64 (clu zs ds least zs.length (rng zs.length))), .int .i64 0], [0], ?_, rfl, Wk.refl _⟩
    rcases hv with ⟨rfl, rfl⟩ | ⟨a, b, c, rfl, rfl⟩ | ⟨a, b, c, rfl, rfl⟩
    · exact (rl_call0 ..).trans fin
    · exact (rl_call1 ..).trans fin
    · exact (rl_call2 ..).trans fin
  · have hA : gCl xs ys least = [] := by unfold gCl cluA okCl; rw [hok]; rfl
    have hE : eCl xs ys least = 1 := by unfold eCl okCl; rw [hok]; rfl
    rw [hA, hE]
    refine ⟨noGd_of rfl, tabU', ltab [(21, 122, noL)], tabU_ok, ltab_cons (by kernel_rfl) (fun p s e s' h => by cases h) ltab_nil, 30, .tup [.fsl (some true) true 0 [], .int .i64 1], [], .tup [.fsl (some true) true 0 [], .int .i64 1], [], (rl_bad ..).trans ?_, rfl, ?_⟩
    · unfold clR
      exact bif_step h1 (bif_step hok rfl)
    · exact Wk.tup (WkL.cons (Wk.fsl rfl (.inl rfl) (by simp) (.inr rfl)) (WkL.cons (Wk.refl _) WkL.nil))
end
end Go.Proofs.Ytfcedalbamafiaa
