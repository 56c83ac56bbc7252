/- Cluster: what the given program does. It bears no condition. -/
import Derived.Test.YtfcedalbamafiaaCiR
namespace Go.Proofs.Ytfcedalbamafiaa
open Go Go.Im
set_option linter.unusedVariables false
set_option linter.unusedSimpArgs false
noncomputable section

/-! ### All places -/
theorem fl_runs {xs : List IV} {nl nl' : Option Bool} {cl cl' : Bool} {ys : List IV} {least : Int} (hs : xs.length ≤ 1000) :
    EachOK Try.prog hint NC 0 (hint.kp 20) (loopAt Try.prog 20 122) (Sx 20 (clV nl' cl' ys least .undef .undef .undef xs.length ((0 : Nat) : Int) .undef .undef .undef) (clB nl cl xs (I64 (rng 0)))) (.exit 0)
      (fun _ : Unit => Sx 20 (cl0 nl cl xs nl' cl' ys least) (clB nl cl xs (I64 (rng xs.length)))) (foldE (fun (_ : Nat) (_ : Unit) (_ : IV) => (Sum.inl () : Unit ⊕ (Ex × St))) 0 () xs) := by
  refine runs_each (X := Unit) (l := xs) (n := 30) (ls := fun _ _ => none) loops_none inner0 (fun i _ => Sx 20 (clV nl' cl' ys least .undef .undef .undef xs.length (i : Int) .undef .undef .undef) (clB nl cl xs (I64 (rng i)))) _
    (fun _ _ => True) (by simp) ?_ ?_ xs.length 0 () (by omega) trivial
  · intro i _ hi _
    refine .inl ⟨(), rfl, ?_, trivial⟩
    have ht := fl_in (tab []) nl cl xs nl' cl' ys (I64 (rng i)) least xs.length i
    rw [wadd1 (by omega), I64_len, rng_len] at ht
    refine ht.trans (bif_step (decide_eq_true (by omega)) (bif_step (decide_eq_true ?_) ?_))
    · rw [roomB_nat, maxLen_val]
      simp only [List.length_cons, List.length_nil]
      omega
    · have e : I64 (rng (i + 1)) = I64 (rng i) ++ [IV.int .i64 (i : Int)] := by unfold I64; rw [rng_succ, List.map_append]; rfl
      rw [e]
  · intro _ _
    have ht := fl_in (tab []) nl cl xs nl' cl' ys (I64 (rng xs.length)) least xs.length xs.length
    exact ht.trans (bif_stepF (decide_eq_false (by omega)) rfl)

/-! ### The nearest distance -/
def Nr (ds : List Int) : Prop := ∀ x ∈ ds, 0 ≤ x ∧ x ≤ 1099511627776
theorem Nr.nth {zs : List Int} (h : Nr zs) (i : Int) : 0 ≤ nthI zs i ∧ nthI zs i ≤ 1099511627776 := by
  unfold nthI
  rw [List.getD_eq_getElem?_getD]
  cases hx : zs[i.toNat]? with
  | none => simp
  | some x => exact h x (List.mem_of_getElem? hx)
def cF (z : Nat) (xs : List IV) (z' : Nat) (ys : List IV) : Bool := okRow z xs && okRow z' ys
theorem fitQ_known {g : FuncId} (h : Known Try.prog hint g fitF) : Known Try.prog hint g (fitQ cF fitB) := by
  intro f us T r T1 hr
  refine h f us T r T1 ?_
  simp only at hr ⊢
  split at hr
  case isFalse => cases hr
  rename_i hf
  rw [if_pos hf]
  obtain ⟨x, hF, e⟩ := Option.map_eq_some_iff.1 hr
  refine Option.map_eq_some_iff.2 ⟨x, ?_, e⟩
  unfold fitQ at hF
  split at hF
  · exact hF
  · cases hF
abbrev tabD : FuncId → Option SpecF := tabQ cF fitB okZ gaS gbS cD gD
theorem tabD_ok : ∀ f F, tabD f = some F → Known Try.prog hint f F := tab_cons (fitQ_known fit_known) (tab_cons gr_known (tab_cons del_known tab_nil))
abbrev ND : Nat → CallF := acall Try.prog hint (ovrOf tabD)
theorem nr_runs {zs ds ks : List Int} (hk : Pl ds.length ks) {nl nl' : Option Bool} {cl cl' : Bool} {least a b n i : Int} :
    EachOK Try.prog hint ND 0 (hint.kp 20) (loopAt Try.prog 20 31834) (Sx 20 (clV nl' cl' (I64 ds) least (.int .i64 a) (.int .i64 b) (.int .i64 1099511627776) n i (.osl 2 0) (.int .i64 (ks.length : Int)) (.int .i64 ((0 : Nat) : Int))) (clB nl cl (I64 zs) (I64 ks))) (.exit 4)
      (fun c : Int => Sx 20 (clV nl' cl' (I64 ds) least (.int .i64 a) (.int .i64 b) (.int .i64 c) n i (.osl 2 0) (.int .i64 (ks.length : Int)) (.int .i64 (ks.length : Int))) (clB nl cl (I64 zs) (I64 ks))) (foldE (fun (_ : Nat) c k => (Sum.inl (nrS ds c k) : Int ⊕ (Ex × St))) 0 1099511627776 ks) := by
  refine runs_each (X := Int) (l := ks) (n := 30) (ls := fun _ _ => none) loops_none inner0 (fun j c => Sx 20 (clV nl' cl' (I64 ds) least (.int .i64 a) (.int .i64 b) (.int .i64 c) n i (.osl 2 0) (.int .i64 (ks.length : Int)) (.int .i64 (j : Int))) (clB nl cl (I64 zs) (I64 ks))) _
    (fun _ _ => True) (by simp) ?_ ?_ ks.length 0 1099511627776 (by omega) trivial
  · intro j c hj _
    refine .inl ⟨_, rfl, ?_, trivial⟩
    have ht := nr_in tabD nl cl (I64 zs) nl' cl' (I64 ds) (I64 ks) least a b c n i ks.length j
    have hkj := hk.at hj
    have hlen := hk.1
    rw [nthN hj, io1, nthZ hkj.1 hkj.2, io2, I64_len, I64_len, wadd1 (by omega)] at ht
    refine ht.trans (bif_step (decide_eq_true (by omega)) (bif_step (decide_eq_true ⟨by omega, by omega⟩) (bif_step (decide_eq_true (by omega)) (bif_step rfl (bif_step (decide_eq_true ⟨rfl, hkj.1, hkj.2⟩) (bif_step rfl ?_))))))
    unfold nrS
    by_cases hn : nthI ds ks[j] < c
    · rw [if_pos hn, decide_eq_true hn, cond_true]
    · rw [if_neg hn, decide_eq_false hn, cond_false]
  · intro c _
    have ht := nr_in tabD nl cl (I64 zs) nl' cl' (I64 ds) (I64 ks) least a b c n i ks.length ks.length
    exact ht.trans (bif_stepF (decide_eq_false (by omega)) rfl)

/-! ### The loop that strikes -/
theorem in124 : loopsOf (2 * 124) (loopAt Try.prog 20 124) = [(31834, itemAt Try.prog 20 31834)] := by kernel_rfl
abbrev nrL (nl : Option Bool) (cl : Bool) (zs : List Int) (nl' : Option Bool) (cl' : Bool) (ds ks : List Int) (least n i : Int) : FuncId → Nat → Option LoopF :=
  ltab [(20, 31834, LF 20 0 (oneF (clV nl' cl' (I64 ds) least (.int .i64 (gaS (I64 zs) (I64 ks))) (.int .i64 (gbS (I64 zs) (I64 ks))) (.int .i64 1099511627776) n i (.osl 2 0) (.int .i64 ((I64 ks).length : Int)) (.int .i64 0)) (clB nl cl (I64 zs) (I64 ks)) (.exit 4)
    (clV nl' cl' (I64 ds) least (.int .i64 (gaS (I64 zs) (I64 ks))) (.int .i64 (gbS (I64 zs) (I64 ks))) (.int .i64 (nr ds ks)) n i (.osl 2 0) (.int .i64 ((I64 ks).length : Int)) (.int .i64 ((I64 ks).length : Int))) (clB nl cl (I64 zs) (I64 ks))))]
theorem nrL_ok {zs ds ks : List Int} (hk : Pl ds.length ks) {nl nl' : Option Bool} {cl cl' : Bool} {least n i : Int} : LoopsOK Try.prog hint ND (nrL nl cl zs nl' cl' ds ks least n i) ∧
    ItemsOK Try.prog hint ND (itOf Try.prog hint ND) (nrL nl cl zs nl' cl' ds ks least n i 20) (hint.kp 20) (2 * 124) (loopAt Try.prog 20 124) := by
  have h1 : LoopOK Try.prog hint ND (itOf Try.prog hint ND) (hint.kp 20) (itemAt Try.prog 20 31834) (LF 20 0 (oneF (clV nl' cl' (I64 ds) least (.int .i64 (gaS (I64 zs) (I64 ks))) (.int .i64 (gbS (I64 zs) (I64 ks))) (.int .i64 1099511627776) n i (.osl 2 0) (.int .i64 ((I64 ks).length : Int)) (.int .i64 0)) (clB nl cl (I64 zs) (I64 ks)) (.exit 4)
    (clV nl' cl' (I64 ds) least (.int .i64 (gaS (I64 zs) (I64 ks))) (.int .i64 (gbS (I64 zs) (I64 ks))) (.int .i64 (nr ds ks)) n i (.osl 2 0) (.int .i64 ((I64 ks).length : Int)) (.int .i64 ((I64 ks).length : Int))) (clB nl cl (I64 zs) (I64 ks)))) := by
    refine loopF_ok fun vs bx e vs' bx' hm => ?_
    obtain ⟨rfl, rfl, rfl, rfl, rfl⟩ := oneF_mem hm
    have q := nr_runs (zs := zs) hk (nl := nl) (nl' := nl') (cl := cl) (cl' := cl') (least := least) (a := gaS (I64 zs) (I64 ks)) (b := gbS (I64 zs) (I64 ks)) (n := n) (i := i)
    rw [foldE_inl (g := nrS ds) (fun _ _ _ => rfl)] at q
    rw [I64_len]
    exact q
  refine ⟨ltab_cons (by kernel_rfl) h1 ltab_nil, ?_⟩
  intro x hx F hF
  rw [in124, List.mem_singleton] at hx
  subst hx
  cases hF
  exact h1
theorem Pl.cut {n : Nat} {ks : List Int} (h : Pl n ks) (i : Int) : Pl n (cut ks i) :=
  ⟨Nat.le_trans (cut_sub ks i).length_le h.1, fun k hk => h.2 k ((cut_sub ks i).subset hk)⟩
theorem gD_I64 (ks : List Int) (i : Int) : gD (I64 ks) i = I64 (cut ks i) := by unfold gD cut I64; rw [List.map_append, List.map_take, List.map_drop]
theorem nr_bnd {ds : List Int} (hd : Nr ds) : ∀ (ks : List Int) (c : Int), 0 ≤ c → c ≤ 1099511627776 → 0 ≤ ks.foldl (nrS ds) c ∧ ks.foldl (nrS ds) c ≤ 1099511627776
  | [], c, h0, h1 => ⟨h0, h1⟩
  | k :: ks, c, h0, h1 => by
    have h := hd.nth k
    rw [List.foldl_cons]
    exact nr_bnd hd ks _ (by unfold nrS; split <;> omega) (by unfold nrS; split <;> omega)
theorem stop_eq {zs ds ks : List Int} (hd : Nr ds) (hlen : ks.length ≤ 64) : decide (gbS (I64 zs) (I64 ks) ≤ IntKind.i64.wrap (nr ds ks * IntKind.i64.wrap (((I64 ks).length : Int) - 1))) = stopB zs ds ks := by
  have hn := nr_bnd hd ks 1099511627776 (by omega) (by omega)
  have h2 : 0 ≤ nr ds ks ∧ nr ds ks ≤ 1099511627776 := hn
  rw [I64_len, i64s (x := (ks.length : Int) - 1) (by omega)]
  have h3 : -1099511627776 ≤ nr ds ks * ((ks.length : Int) - 1) ∧ nr ds ks * ((ks.length : Int) - 1) ≤ 1099511627776 * 64 := by
    constructor
    · have := Int.mul_le_mul_of_nonneg_left (show (-1 : Int) ≤ (ks.length : Int) - 1 by omega) h2.1
      omega
    · exact Int.le_trans (Int.mul_le_mul_of_nonneg_left (show (ks.length : Int) - 1 ≤ 64 by omega) h2.1) (by omega)
  rw [i64s (by omega)]
  unfold stopB gbS
  rw [toInts_I64, toInts_I64]
def Ends2 (nl : Option Bool) (cl : Bool) (xs : List IV) (nl' : Option Bool) (cl' : Bool) (ys : List IV) (least : Int) (vs : List IV) : Prop :=
  (∃ a b c e f, vs = cl1 nl cl xs nl' cl' ys least a b c e f) ∨ ∃ a b c e f, vs = cl2 nl cl xs nl' cl' ys least a b c e f
theorem ou_runs {zs ds : List Int} (hz : Sm zs) (hd : Nr ds) (hl : zs.length = ds.length) {nl nl' : Option Bool} {cl cl' : Bool} {least : Int} (h1 : 1 ≤ least) : ∀ (n : Nat) (ks : List Int), ks.length ≤ n → Pl zs.length ks → ∀ a b c e f : Int,
    ∃ vs, Ends2 nl cl (I64 zs) nl' cl' (I64 ds) least vs ∧ Runs Try.prog hint ND 0 (hint.kp 20) (loopAt Try.prog 20 124) (Sx 20 (cl1 nl cl (I64 zs) nl' cl' (I64 ds) least a b c e f) (clB nl cl (I64 zs) (I64 ks))) (.exit 2) (Sx 20 vs (clB nl cl (I64 zs) (I64 (clu zs ds least n ks)))) := by
  intro n
  induction n with
  | zero =>
    intro ks hn hk a b c e f
    have hk' : Pl ds.length ks := by rw [← hl]; exact hk
    have hr := cl_r1 nl cl (I64 zs) nl' cl' (I64 ds) (I64 ks) least (nr ds ks) (I64 zs).length (I64 zs).length a b c e f cF fitB okZ gaS gbS cD gD
    refine ⟨_, .inl ⟨a, b, c, e, f, rfl⟩, Runs.last (nrL_ok hk').1 (nrL_ok hk').2 (by simp) (hr.trans (bif_stepF (decide_eq_false (by rw [I64_len]; omega)) rfl))⟩
  | succ n ih =>
    intro ks hn hk a b c e f
    have hk' : Pl ds.length ks := by rw [← hl]; exact hk
    have hr := cl_r1 nl cl (I64 zs) nl' cl' (I64 ds) (I64 ks) least (nr ds ks) (I64 zs).length (I64 zs).length a b c e f cF fitB okZ gaS gbS cD gD
    unfold clu
    by_cases hg : (ks.length : Int) > least
    · rw [if_pos hg]
      have hne : ks ≠ [] := by rintro rfl; simp at hg; omega
      obtain ⟨g1, g2⟩ := gr_eq (zs := zs) (ds := ds) hne (fun k => (hd.nth k).2)
      have hin := rfx_in (zs := zs) (ds := ds) hne
      have hga : gaS (I64 zs) (I64 ks) = (gr zs ks).1 := by unfold gaS; rw [toInts_I64, toInts_I64]
      have hgi : 0 ≤ (gr zs ks).1 ∧ (gr zs ks).1 < (ks.length : Int) := by rw [g1]; exact hin
      have hlen := hk.1
      replace hr := fun r h => hr.trans (bif_step (r := r) (decide_eq_true (by rw [I64_len]; exact hg)) (bif_step (okZ_of hz hk) (bif_step sameS_t h)))
      by_cases hs : stopB zs ds ks = true
      · rw [if_pos hs]
        exact ⟨_, .inr ⟨_, _, _, _, _, rfl⟩, Runs.last (nrL_ok hk').1 (nrL_ok hk').2 (by simp) (hr _ (bif_step (by rw [stop_eq hd hlen]; exact hs) rfl))⟩
      · rw [if_neg hs]
        have hcd : cD (I64 ks) (gaS (I64 zs) (I64 ks)) (IntKind.i64.wrap (gaS (I64 zs) (I64 ks) + 1)) = true := by
          unfold cD
          rw [hga, i64s (by omega)]
          exact @decide_eq_true _ (Classical.propDecidable _) ⟨rfl, hgi.1, by rw [I64_len]; exact hgi.2, ks, rfl⟩
        have hstep := hr _ (bif_stepF (by rw [stop_eq hd hlen]; simpa using hs) (bif_step hcd rfl))
        rw [gD_I64] at hstep
        rw [← hga]
        obtain ⟨vs, hv, hrun⟩ := ih (cut ks (gaS (I64 zs) (I64 ks))) (by rw [hga, cut_len hgi.1 hgi.2]; omega) (hk.cut _) (gaS (I64 zs) (I64 ks)) (gbS (I64 zs) (I64 ks)) (nr ds ks) (I64 ks).length (I64 ks).length
        exact ⟨vs, hv, Runs.step (nrL_ok hk').1 (nrL_ok hk').2 hstep hrun⟩
    · rw [if_neg hg]
      exact ⟨_, .inl ⟨a, b, c, e, f, rfl⟩, Runs.last (nrL_ok hk').1 (nrL_ok hk').2 (by simp) (hr.trans (bif_stepF (decide_eq_false (by rw [I64_len]; exact hg)) rfl))⟩
theorem ou_runs0 {zs ds : List Int} (hz : Sm zs) (hd : Nr ds) (hl : zs.length = ds.length) {nl nl' : Option Bool} {cl cl' : Bool} {least : Int} (h1 : 1 ≤ least) (n : Nat) (ks : List Int) (hn : ks.length ≤ n) (hk : Pl zs.length ks) :
    ∃ vs, (vs = cl0 nl cl (I64 zs) nl' cl' (I64 ds) least ∨ Ends2 nl cl (I64 zs) nl' cl' (I64 ds) least vs) ∧ Runs Try.prog hint ND 0 (hint.kp 20) (loopAt Try.prog 20 124) (Sx 20 (cl0 nl cl (I64 zs) nl' cl' (I64 ds) least) (clB nl cl (I64 zs) (I64 ks))) (.exit 2) (Sx 20 vs (clB nl cl (I64 zs) (I64 (clu zs ds least n ks)))) := by
  have hk' : Pl ds.length ks := by rw [← hl]; exact hk
  have hr := cl_r0 nl cl (I64 zs) nl' cl' (I64 ds) (I64 ks) least (nr ds ks) (I64 zs).length (I64 zs).length cF fitB okZ gaS gbS cD gD
  by_cases hg : (ks.length : Int) > least
  · have hne : ks ≠ [] := by rintro rfl; simp at hg; omega
    obtain ⟨g1, g2⟩ := gr_eq (zs := zs) (ds := ds) hne (fun k => (hd.nth k).2)
    have hin := rfx_in (zs := zs) (ds := ds) hne
    have hga : gaS (I64 zs) (I64 ks) = (gr zs ks).1 := by unfold gaS; rw [toInts_I64, toInts_I64]
    have hgi : 0 ≤ (gr zs ks).1 ∧ (gr zs ks).1 < (ks.length : Int) := by rw [g1]; exact hin
    have hlen := hk.1
    replace hr := fun r h => hr.trans (bif_step (r := r) (decide_eq_true (by rw [I64_len]; exact hg)) (bif_step (okZ_of hz hk) (bif_step sameS_t h)))
    cases n with
    | zero => omega
    | succ n =>
      unfold clu
      rw [if_pos hg]
      by_cases hs : stopB zs ds ks = true
      · rw [if_pos hs]
        exact ⟨_, .inr (.inr ⟨_, _, _, _, _, rfl⟩), Runs.last (nrL_ok hk').1 (nrL_ok hk').2 (by simp) (hr _ (bif_step (by rw [stop_eq hd hlen]; exact hs) rfl))⟩
      · rw [if_neg hs]
        have hcd : cD (I64 ks) (gaS (I64 zs) (I64 ks)) (IntKind.i64.wrap (gaS (I64 zs) (I64 ks) + 1)) = true := by
          unfold cD
          rw [hga, i64s (by omega)]
          exact @decide_eq_true _ (Classical.propDecidable _) ⟨rfl, hgi.1, by rw [I64_len]; exact hgi.2, ks, rfl⟩
        have hstep := hr _ (bif_stepF (by rw [stop_eq hd hlen]; simpa using hs) (bif_step hcd rfl))
        rw [gD_I64] at hstep
        rw [← hga]
        obtain ⟨vs, hv, hrun⟩ := ou_runs hz hd hl h1 n (cut ks (gaS (I64 zs) (I64 ks))) (by rw [hga, cut_len hgi.1 hgi.2]; omega) (hk.cut _) (gaS (I64 zs) (I64 ks)) (gbS (I64 zs) (I64 ks)) (nr ds ks) (I64 ks).length (I64 ks).length
        exact ⟨vs, .inr hv, Runs.step (nrL_ok hk').1 (nrL_ok hk').2 hstep hrun⟩
  · have e : clu zs ds least n ks = ks := clu_all (by omega) n
    rw [e]
    exact ⟨_, .inl rfl, Runs.last (nrL_ok hk').1 (nrL_ok hk').2 (by simp) (hr.trans (bif_stepF (decide_eq_false (by rw [I64_len]; exact hg)) rfl))⟩

/-! ### Cluster -/
def clP (c : List IV → List IV → Bool) (g : List IV → List IV → Int → List IV) (e : List IV → List IV → Int → Int) : SpecF := fun us T => match us, T with
  | [.fsl nl cl 1 xs, .fsl nl' cl' 1 ys, .int .i64 least], [] => [(c xs ys, .tup [.fsl none false 1 (g xs ys least), .int .i64 (e xs ys least)], [])]
  | _, _ => []
def cCl (xs ys : List IV) : Bool := cF 1 xs 1 ys
def okCl (xs ys : List IV) (least : Int) : Bool := bif (bif !fitB xs ys then true else decide (least < (1 : Int))) then false else true
/-- What is left. -/
def cluA (xs ys : List IV) (least : Int) : List Int := bif okCl xs ys least then clu (toInts xs) (toInts ys) least (toInts xs).length (rng (toInts xs).length) else []
def gCl (xs ys : List IV) (least : Int) : List IV := I64 (cluA xs ys least)
def eCl (xs ys : List IV) (least : Int) : Int := bif okCl xs ys least then 0 else 1
theorem fitP_sm {zs ws : List Int} (h : FitP zs ws) : Sm zs ∧ Nr ws ∧ zs.length = ws.length ∧ zs.length ≤ 64 := ⟨h.off, h.dist, h.len, h.few⟩
theorem Pl.rng {n : Nat} (h : n ≤ 64) : Pl n (rng n) := ⟨by rw [rng_len]; exact h, fun k hk => rng_mem hk⟩
theorem cF_iff {xs ys : List IV} (h : cF 1 xs 1 ys = true) : xs = I64 (toInts xs) ∧ ys = I64 (toInts ys) := by
  unfold cF at h
  simp only [Bool.and_eq_true] at h
  exact ⟨(okRow_iff h.1).2.1, (okRow_iff h.2).2.1⟩
theorem cluster_known : Known Try.prog hint 20 (clP cCl gCl eCl) := by
  refine known_frz fits fun us T v T1 h => ?_
  unfold clP at h
  split at h
  case h_2 => cases h
  rename_i nl cl xs nl' cl' ys least
  simp only [List.mem_cons, List.not_mem_nil, or_false, Prod.mk.injEq, Bool.true_eq] at h
  obtain ⟨h1, rfl, rfl⟩ := h
  refine ⟨rfl, rfl, [[.fsl nl cl 1 xs, .fsl nl' cl' 1 ys, .int .i64 least]], by simp, Splits.self _, fun qs hq => ?_⟩
  rw [List.mem_singleton] at hq
  subst hq
  cases hok : (bif !fitB xs ys then true else decide (least < (1 : Int)))
  · have hfit : fitB xs ys = true := by cases hf : fitB xs ys with
      | true => rfl
      | false => rw [hf] at hok; cases hok
    have hle : 1 ≤ least := by rw [hfit] at hok; have := of_decide_eq_false hok; omega
    obtain ⟨hz, hd, hl, hf⟩ := fitP_sm (fitB_p hfit)
    obtain ⟨ex, ey⟩ := cF_iff h1
    have hA : gCl xs ys least = I64 (clu (toInts xs) (toInts ys) least (toInts xs).length (rng (toInts xs).length)) := by unfold gCl cluA okCl; rw [hok]; rfl
    have hE : eCl xs ys least = 0 := by unfold eCl okCl; rw [hok]; rfl
    rw [hA, hE]
    generalize hzs : toInts xs = zs at *
    generalize hds : toInts ys = ds at *
    subst ex ey
    obtain ⟨vs, hv, hrun⟩ := ou_runs0 hz hd hl (nl := nl) (nl' := nl') (cl := cl) (cl' := cl') hle zs.length (rng zs.length) (by rw [rng_len]; exact Nat.le_refl _) (Pl.rng hf)
    have q := fl_runs (xs := I64 zs) (nl := nl) (nl' := nl') (cl := cl) (cl' := cl') (ys := I64 ds) (least := least) (by rw [I64_len]; omega)
    rw [foldE_inl (g := fun (_ : Unit) (_ : IV) => ()) (fun _ _ _ => rfl), I64_len] at q
    have hls : LoopsOK Try.prog hint ND (clF nl cl (I64 zs) nl' cl' (I64 ds) (I64 (rng zs.length)) least vs (clB nl cl (I64 zs) (I64 (clu zs ds least zs.length (rng zs.length))))) := by
      refine ltab_cons (by kernel_rfl) (loopF_ok fun vs bx e vs' bx' hm => ?_) (ltab_cons (by kernel_rfl) (loopF_ok fun vs bx e vs' bx' hm => ?_) ltab_nil)
      · obtain ⟨rfl, rfl, rfl, rfl, rfl⟩ := oneF_mem hm
        rw [I64_len]
        exact q
      · obtain ⟨rfl, rfl, rfl, rfl, rfl⟩ := oneF_mem hm
        exact hrun
    have fin : clE nl cl (I64 zs) nl' cl' (I64 ds) (I64 (rng zs.length)) (I64 (clu zs ds least zs.length (rng zs.length))) least cF fitB = some (.tup [.osl 0 0, .int .i64 0], [.row 0 false 1 (I64 (clu zs ds least zs.length (rng zs.length)))]) := by
      unfold clE clR
      exact bif_step h1 (bif_stepF hok (bif_step sameS_t (bif_step sameS_t rfl)))
    refine ⟨noGd_of rfl, tabD, _, tabD_ok, hls, 30, .tup [.osl 0 0, .int .i64 0], [.row 0 false 1 (I64 (clu zs ds least zs.length (rng zs.length)))], .tup [.fsl none false 1 (I64 (clu zs ds least zs.length (rng zs.length))), .int .i64 0], [0], ?_, rfl, Wk.refl _⟩
    rcases hv with rfl | ⟨a, b, c, e, f, rfl⟩ | ⟨a, b, c, e, f, rfl⟩
    · exact (cl_call0 ..).trans fin
    · exact (cl_call1 ..).trans fin
    · exact (cl_call2 ..).trans fin
  · have hA : gCl xs ys least = [] := by unfold gCl cluA okCl; rw [hok]; rfl
    have hE : eCl xs ys least = 1 := by unfold eCl okCl; rw [hok]; rfl
    rw [hA, hE]
    refine ⟨noGd_of rfl, tabD, ltab [(20, 122, noL)], tabD_ok, ltab_cons (by kernel_rfl) (fun p s e s' h => by cases h) ltab_nil, 30, .tup [.fsl (some true) true 0 [], .int .i64 1], [], .tup [.fsl (some true) true 0 [], .int .i64 1], [], (cl_bad ..).trans ?_, rfl, ?_⟩
    · unfold clR
      exact bif_step h1 (bif_step hok rfl)
    · exact Wk.tup (WkL.cons (Wk.fsl rfl (.inl rfl) (by simp) (.inr rfl)) (WkL.cons (Wk.refl _) WkL.nil))
end
end Go.Proofs.Ytfcedalbamafiaa
