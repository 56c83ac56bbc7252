/- strange, the closure and greatest: what the given program does. It bears no condition. -/
import Derived.Test.YtfcedalbamafiaaCiQ
import Derived.Test.YtfcedalbamafiaaCiS
namespace Go.Proofs.Ytfcedalbamafiaa
open Go Go.Im
set_option linter.unusedVariables false
set_option linter.unusedSimpArgs false
noncomputable section

abbrev I64 (l : List Int) : List IV := l.map (IV.int .i64)
theorem nthZ {zs : List Int} {i : Int} (h0 : 0 ≤ i) (h1 : i < (zs.length : Int)) : nthD (I64 zs) i.toNat = .int .i64 (nthI zs i) := by
  have h : i.toNat < zs.length := by omega
  unfold I64 nthI
  rw [nthD_mapf h, List.getD_eq_getElem?_getD, List.getElem?_eq_getElem h]
  rfl
theorem nthN {zs : List Int} {i : Nat} (h1 : i < zs.length) : nthD (I64 zs) ((i : Int)).toNat = .int .i64 zs[i] := by
  rw [Int.toNat_natCast]
  unfold I64
  rw [nthD_mapf h1]
theorem I64_len (l : List Int) : (I64 l).length = l.length := List.length_map ..
theorem io1 (x : Int) : Im.intOf (nthD (List.drop 0 (IV.int .i64 x).cells) 0) = x := Eq.trans rfl rfl
theorem io2 (x : Int) : Im.intOf (nthD (IV.int .i64 x).cells 0) = x := Eq.trans rfl rfl
/-- Numbers that are small. -/
def Sm (zs : List Int) : Prop := ∀ x ∈ zs, -1099511627776 ≤ x ∧ x ≤ 1099511627776
theorem Sm.nth {zs : List Int} (h : Sm zs) (i : Int) : -1099511627776 ≤ nthI zs i ∧ nthI zs i ≤ 1099511627776 := by
  unfold nthI
  rw [List.getD_eq_getElem?_getD]
  cases hx : zs[i.toNat]? with
  | none => simp
  | some x => exact h x (List.mem_of_getElem? hx)
theorem Sm.absd {zs : List Int} (h : Sm zs) (i k : Int) : absd (nthI zs i) (nthI zs k) ≤ 2199023255552 := by
  have h1 := h.nth i
  have h2 := h.nth k
  unfold Ytfcedalbamafiaa.absd
  split <;> omega
/-- Places of a row. -/
def Pl (n : Nat) (ks : List Int) : Prop := ks.length ≤ 64 ∧ ∀ k ∈ ks, 0 ≤ k ∧ k < (n : Int)
theorem Pl.at {n : Nat} {ks : List Int} (h : Pl n ks) {i : Nat} (hi : i < ks.length) : 0 ≤ ks[i] ∧ ks[i] < (n : Int) := h.2 _ (List.getElem_mem hi)
def WB (i : Nat) (s : Int) : Prop := 0 ≤ s ∧ s ≤ (i : Int) * 2199023255552
theorem WB.step {zs : List Int} (h : Sm zs) {i : Nat} {s : Int} (hs : WB i s) (a k : Int) : WB (i + 1) (worS zs a s k) := by
  have h1 := h.absd a k
  have h2 := absd_nonneg (nthI zs a) (nthI zs k)
  unfold WB worS at *
  rw [show ((i + 1 : Nat) : Int) * 2199023255552 = (i : Int) * 2199023255552 + 2199023255552 by rw [Int.natCast_succ, Int.add_mul, Int.one_mul]]
  omega
theorem i64s {x : Int} (h : -9000000000000000000 ≤ x ∧ x ≤ 9000000000000000000) : IntKind.i64.wrap x = x := by rw [wrap_i64]; omega
abbrev NC : Nat → CallF := acall Try.prog hint (ovrOf (tab []))

/-! ### strange -/
theorem st_round {zs ks : List Int} (hz : Sm zs) (hk : Pl zs.length ks) {nl : Option Bool} {cl : Bool} {a s : Int} {i : Nat} (h0 : 0 ≤ a) (h1 : a < (ks.length : Int)) (hi : i < ks.length) (hs : WB i s) :
    Rd (tab []) 32 58 (Sx 32 (stV nl cl (I64 zs) (I64 ks) a s i) []) = some (.normal, Sx 32 (stV nl cl (I64 zs) (I64 ks) a (worS zs (nthI ks a) s ks[i]) ((i + 1 : Nat) : Int)) []) := by
  have ht := st_in (tab []) nl cl (I64 zs) (I64 ks) a s i
  have hal := h1
  have hka : 0 ≤ nthI ks a ∧ nthI ks a < (zs.length : Int) := by
    have e : nthI ks a = ks[a.toNat] := by unfold nthI; rw [List.getD_eq_getElem?_getD, List.getElem?_eq_getElem (by omega)]; rfl
    rw [e]; exact hk.at (by omega)
  have hki := hk.at hi
  rw [nthZ h0 h1, nthN hi, io2, io2, nthZ hka.1 hka.2, nthZ hki.1 hki.2, io2, io2, I64_len, I64_len] at ht
  have b1 := hz.nth (nthI ks a)
  have b2 := hz.nth ks[i]
  have hlen := hk.1
  have hs' := hs
  unfold WB at hs'
  have hs2 : s ≤ 64 * 2199023255552 := by
    have : (i : Int) * 2199023255552 ≤ 64 * 2199023255552 := by omega
    omega
  rw [i64s (x := nthI zs (nthI ks a) - nthI zs ks[i]) (by omega), i64s (x := 0 - _) (by omega), i64s (x := s + (0 - _)) (by omega), i64s (x := s + (nthI zs (nthI ks a) - nthI zs ks[i])) (by omega), wadd1 (by omega)] at ht
  refine ht.trans (bif_step (decide_eq_true (by omega)) (bif_step (decide_eq_true ⟨rfl, h0, h1⟩) (bif_step rfl (bif_step (decide_eq_true ⟨rfl, hka.1, hka.2⟩) (bif_step rfl (bif_step (decide_eq_true ⟨rfl, by omega, by omega⟩) (bif_step rfl (bif_step (decide_eq_true ⟨rfl, hki.1, hki.2⟩) (bif_step rfl ?_)))))))))
  unfold worS absd
  by_cases hn : nthI zs (nthI ks a) - nthI zs ks[i] < 0
  · rw [if_pos hn]
    exact bif_step (decide_eq_true hn) (by rw [Int.zero_sub])
  · rw [if_neg hn]
    exact bif_stepF (decide_eq_false hn) rfl
theorem st_runs {zs ks : List Int} (hz : Sm zs) (hk : Pl zs.length ks) {nl : Option Bool} {cl : Bool} {a : Int} (h0 : 0 ≤ a) (h1 : a < (ks.length : Int)) :
    EachOK Try.prog hint NC 0 (hint.kp 32) (loopAt Try.prog 32 58) (Sx 32 (stV nl cl (I64 zs) (I64 ks) a 0 ((0 : Nat) : Int)) []) (.exit 0)
      (fun s : Int => Sx 32 (stV nl cl (I64 zs) (I64 ks) a s (ks.length : Int)) []) (foldE (fun (_ : Nat) s k => (Sum.inl (worS zs (nthI ks a) s k) : Int ⊕ (Ex × St))) 0 0 ks) := by
  refine runs_each (X := Int) (l := ks) (n := 30) (ls := fun _ _ => none) loops_none inner0 (fun i s => Sx 32 (stV nl cl (I64 zs) (I64 ks) a s (i : Int)) []) _
    WB (by simp) ?_ ?_ ks.length 0 0 (by omega) (by simp [WB])
  · intro i s hi hs
    exact .inl ⟨_, rfl, st_round hz hk h0 h1 hi hs, WB.step hz hs _ _⟩
  · intro s hs
    have ht := st_in (tab []) nl cl (I64 zs) (I64 ks) a s ks.length
    rw [I64_len] at ht
    exact ht.trans (bif_stepF (decide_eq_false (by omega)) rfl)
/-- What a contract of rows of numbers asks. -/
def okZ (xs l : List IV) : Bool := @decide (∃ zs ks : List Int, xs = I64 zs ∧ l = I64 ks ∧ Sm zs ∧ Pl zs.length ks) (Classical.propDecidable _)
theorem okZ_iff {xs l : List IV} (h : okZ xs l = true) : ∃ zs ks : List Int, xs = I64 zs ∧ l = I64 ks ∧ Sm zs ∧ Pl zs.length ks := @of_decide_eq_true _ (Classical.propDecidable _) h
theorem toInts_I64 (zs : List Int) : toInts (I64 zs) = zs := by
  unfold toInts I64
  rw [List.map_map]
  exact (List.map_congr_left fun x _ => rfl).trans (List.map_id zs)
def cS (xs l : List IV) (a : Int) : Bool := okZ xs l && decide (0 ≤ a ∧ a < (l.length : Int))
def wS (xs l : List IV) (a : Int) : Int := wor (toInts xs) (toInts l) (nthI (toInts l) a)
theorem st_known : Known Try.prog hint 32 (stP cS wS) := by
  refine known_alt fits fun us T v T1 h => ?_
  unfold stP at h
  split at h
  case h_2 => cases h
  rename_i nl cl xs l a
  simp only [List.mem_cons, List.not_mem_nil, or_false, Prod.mk.injEq, Bool.true_eq, cS, Bool.and_eq_true, decide_eq_true_eq] at h
  obtain ⟨⟨h1, h2, h3⟩, rfl, rfl⟩ := h
  obtain ⟨zs, ks, rfl, rfl, hz, hk⟩ := okZ_iff h1
  rw [I64_len] at h3
  refine ⟨[[.fsl nl cl 1 (I64 zs), .fsl none false 1 (I64 ks), .int .i64 a]], by simp, Splits.self _, fun ys hy => ?_⟩
  rw [List.mem_singleton] at hy
  subst hy
  have q := st_runs hz hk (nl := nl) (cl := cl) h2 h3
  rw [foldE_inl (g := worS zs (nthI ks a)) (fun _ _ _ => rfl)] at q
  have hls : LoopsOK Try.prog hint NC (ltab [(32, 58, LF 32 0 (oneF (stV nl cl (I64 zs) (I64 ks) a 0 0) [] (.exit 0) (stV nl cl (I64 zs) (I64 ks) a (wS (I64 zs) (I64 ks) a) ((I64 ks).length : Int)) []))]) := by
    refine ltab_cons (by kernel_rfl) (loopF_ok fun vs bx e vs' bx' hm => ?_) ltab_nil
    obtain ⟨rfl, rfl, rfl, rfl, rfl⟩ := oneF_mem hm
    rw [I64_len]
    unfold wS
    rw [toInts_I64, toInts_I64]
    exact q
  exact ⟨noGd_of rfl, tab [], _, tab_nil, hls, 30, _, Wk.refl _, (st_call ..).trans (bif_step sameS_t rfl)⟩

/-! ### The closure -/
theorem wo_round {zs ks : List Int} (hz : Sm zs) (hk : Pl zs.length ks) {nl : Option Bool} {cl : Bool} {a s : Int} {i : Nat} (h0 : 0 ≤ a) (h1 : a < (zs.length : Int)) (hi : i < ks.length) (hs : WB i s) :
    Rp 3 (tab []) 30 58 (Sx 30 (woV a s ks.length i) (grB nl cl (I64 zs) (I64 ks))) = some (.normal, Sx 30 (woV a (worS zs a s ks[i]) ks.length ((i + 1 : Nat) : Int)) (grB nl cl (I64 zs) (I64 ks))) := by
  have ht := wo_in (tab []) nl cl (I64 zs) (I64 ks) a s ks.length i
  have hki := hk.at hi
  rw [nthN hi, io1, nthZ h0 h1, nthZ hki.1 hki.2, io2, io2, I64_len, I64_len] at ht
  have b1 := hz.nth a
  have b2 := hz.nth ks[i]
  have hlen := hk.1
  have hs' := hs
  unfold WB at hs'
  have hs2 : s ≤ 64 * 2199023255552 := by
    have : (i : Int) * 2199023255552 ≤ 64 * 2199023255552 := by omega
    omega
  rw [i64s (x := nthI zs a - nthI zs ks[i]) (by omega), i64s (x := 0 - _) (by omega), wadd1 (by omega)] at ht
  refine ht.trans (bif_step (decide_eq_true (by omega)) (bif_step (decide_eq_true ⟨by omega, by omega⟩) (bif_step (decide_eq_true (by omega)) (bif_step rfl (bif_step (decide_eq_true ⟨rfl, h0, h1⟩) (bif_step rfl (bif_step (decide_eq_true ⟨rfl, hki.1, hki.2⟩) (bif_step rfl ?_))))))))
  unfold worS absd
  by_cases hn : nthI zs a - nthI zs ks[i] < 0
  · rw [if_pos hn, decide_eq_true (show 0 - (nthI zs a - nthI zs ks[i]) > nthI zs a - nthI zs ks[i] by omega), cond_true, i64s (by omega), Int.zero_sub]
  · rw [if_neg hn, decide_eq_false (show ¬ 0 - (nthI zs a - nthI zs ks[i]) > nthI zs a - nthI zs ks[i] by omega), cond_false, i64s (by omega)]
theorem wo_runs {zs ks : List Int} (hz : Sm zs) (hk : Pl zs.length ks) {nl : Option Bool} {cl : Bool} {a : Int} (h0 : 0 ≤ a) (h1 : a < (zs.length : Int)) :
    EachOK Try.prog hint NC 3 (hint.kp 30) (loopAt Try.prog 30 58) (Sx 30 (woV a 0 ks.length ((0 : Nat) : Int)) (grB nl cl (I64 zs) (I64 ks))) (.exit 0)
      (fun s : Int => Sx 30 (woV a s ks.length ks.length) (grB nl cl (I64 zs) (I64 ks))) (foldE (fun (_ : Nat) s k => (Sum.inl (worS zs a s k) : Int ⊕ (Ex × St))) 0 0 ks) := by
  refine runs_each (X := Int) (l := ks) (n := 30) (ls := fun _ _ => none) loops_none inner0 (fun i s => Sx 30 (woV a s ks.length (i : Int)) (grB nl cl (I64 zs) (I64 ks))) _
    WB (by simp) ?_ ?_ ks.length 0 0 (by omega) (by simp [WB])
  · intro i s hi hs
    exact .inl ⟨_, rfl, wo_round hz hk h0 h1 hi hs, WB.step hz hs _ _⟩
  · intro s hs
    have ht := wo_in (tab []) nl cl (I64 zs) (I64 ks) a s ks.length ks.length
    exact ht.trans (bif_stepF (decide_eq_false (by omega)) rfl)
def cW (xs l : List IV) (a : Int) : Bool := okZ xs l && decide (0 ≤ a ∧ a < (xs.length : Int))
def wW (xs l : List IV) (a : Int) : Int := wor (toInts xs) (toInts l) a
theorem wo_known : Known Try.prog hint 30 (woP cW wW) := by
  refine known_alt fits fun us T v T1 h => ?_
  unfold woP at h
  split at h
  case h_2 => cases h
  rename_i a nl cl xs l
  simp only [List.mem_cons, List.not_mem_nil, or_false, Prod.mk.injEq, Bool.true_eq, cW, Bool.and_eq_true, decide_eq_true_eq] at h
  obtain ⟨⟨h1, h2, h3⟩, rfl, rfl⟩ := h
  obtain ⟨zs, ks, rfl, rfl, hz, hk⟩ := okZ_iff h1
  rw [I64_len] at h3
  refine ⟨[[.int .i64 a, .ptr 0 0, .ptr 1 0]], by simp, Splits.self _, fun ys hy => ?_⟩
  rw [List.mem_singleton] at hy
  subst hy
  have q := wo_runs hz hk (nl := nl) (cl := cl) h2 h3
  rw [foldE_inl (g := worS zs a) (fun _ _ _ => rfl)] at q
  have hls : LoopsOK Try.prog hint NC (ltab [(30, 58, LF 30 3 (oneF (woV a 0 ((I64 ks).length : Int) 0) (grB nl cl (I64 zs) (I64 ks)) (.exit 0) (woV a (wW (I64 zs) (I64 ks) a) ((I64 ks).length : Int) ((I64 ks).length : Int)) (grB nl cl (I64 zs) (I64 ks))))]) := by
    refine ltab_cons (by kernel_rfl) (loopF_ok fun vs bx e vs' bx' hm => ?_) ltab_nil
    obtain ⟨rfl, rfl, rfl, rfl, rfl⟩ := oneF_mem hm
    rw [I64_len]
    unfold wW
    rw [toInts_I64, toInts_I64]
    exact q
  exact ⟨noGd_of rfl, tab [], _, tab_nil, hls, 30, _, Wk.refl _, (wo_call ..).trans (bif_step sameS_t rfl)⟩

/-! ### greatest -/
abbrev NW : Nat → CallF := acall Try.prog hint (ovrOf (tab [(30, woP cW wW)]))
theorem tabW_ok : ∀ f F, tab [(30, woP cW wW)] f = some F → Known Try.prog hint f F := tab_cons wo_known tab_nil
theorem okZ_of {zs ks : List Int} (hz : Sm zs) (hk : Pl zs.length ks) : okZ (I64 zs) (I64 ks) = true := @decide_eq_true _ (Classical.propDecidable _) ⟨zs, ks, rfl, rfl, hz, hk⟩
theorem gr_runs {zs ks : List Int} (hz : Sm zs) (hk : Pl zs.length ks) {nl : Option Bool} {cl : Bool} :
    EachOK Try.prog hint NW 3 (hint.kp 29) (loopAt Try.prog 29 58) (Sx 29 (grV (-1) (-1) ks.length ((0 : Nat) : Int)) (grB nl cl (I64 zs) (I64 ks))) (.exit 0)
      (fun s : Int × Int => Sx 29 (grV s.1 s.2 ks.length ks.length) (grB nl cl (I64 zs) (I64 ks))) (foldE (fun i s x => (Sum.inl (grS zs ks i s x) : (Int × Int) ⊕ (Ex × St))) 0 (-1, -1) ks) := by
  refine runs_each (X := Int × Int) (l := ks) (n := 30) (ls := fun _ _ => none) loops_none inner0 (fun i s => Sx 29 (grV s.1 s.2 ks.length (i : Int)) (grB nl cl (I64 zs) (I64 ks))) _
    (fun _ _ => True) (by simp) ?_ ?_ ks.length 0 (-1, -1) (by omega) trivial
  · intro i s hi _
    refine .inl ⟨_, rfl, ?_, trivial⟩
    have ht := gr_in cW wW nl cl (I64 zs) (I64 ks) s.1 s.2 ks.length i
    have hki := hk.at hi
    have hlen := hk.1
    have hc : cW (I64 zs) (I64 ks) ks[i] = true := by
      unfold cW
      rw [okZ_of hz hk, I64_len, decide_eq_true hki]; rfl
    have hw : wW (I64 zs) (I64 ks) ks[i] = wor zs ks ks[i] := by unfold wW; rw [toInts_I64, toInts_I64]
    rw [nthN hi, io1, hw, I64_len, wadd1 (by omega)] at ht
    refine ht.trans (bif_step (decide_eq_true (by omega)) (bif_step (decide_eq_true ⟨by omega, by omega⟩) (bif_step (decide_eq_true (by omega)) (bif_step rfl (bif_step hc ?_)))))
    unfold grS
    by_cases hg : wor zs ks ks[i] ≥ s.2
    · rw [if_pos hg]
      exact bif_step (decide_eq_true hg) rfl
    · rw [if_neg hg]
      exact bif_stepF (decide_eq_false hg) rfl
  · intro s _
    have ht := gr_in cW wW nl cl (I64 zs) (I64 ks) s.1 s.2 ks.length ks.length
    exact ht.trans (bif_stepF (decide_eq_false (by omega)) rfl)
def gaS (xs l : List IV) : Int := (gr (toInts xs) (toInts l)).1
def gbS (xs l : List IV) : Int := (gr (toInts xs) (toInts l)).2
theorem gr_known : Known Try.prog hint 29 (grP okZ gaS gbS) := by
  refine known_alt fits fun us T v T1 h => ?_
  unfold grP at h
  split at h
  case h_2 => cases h
  rename_i nl cl xs l
  simp only [List.mem_cons, List.not_mem_nil, or_false, Prod.mk.injEq, Bool.true_eq] at h
  obtain ⟨h1, rfl, rfl⟩ := h
  obtain ⟨zs, ks, rfl, rfl, hz, hk⟩ := okZ_iff h1
  refine ⟨[[.osl 2 0, .fn 30 [.ptr 0 0, .ptr 1 0]]], by simp, Splits.self _, fun ys hy => ?_⟩
  rw [List.mem_singleton] at hy
  subst hy
  have q := gr_runs hz hk (nl := nl) (cl := cl)
  rw [foldE_if] at q
  have hls : LoopsOK Try.prog hint NW (ltab [(29, 58, LF 29 3 (oneF (grV (-1) (-1) ((I64 ks).length : Int) 0) (grB nl cl (I64 zs) (I64 ks)) (.exit 0) (grV (gaS (I64 zs) (I64 ks)) (gbS (I64 zs) (I64 ks)) ((I64 ks).length : Int) ((I64 ks).length : Int)) (grB nl cl (I64 zs) (I64 ks))))]) := by
    refine ltab_cons (by kernel_rfl) (loopF_ok fun vs bx e vs' bx' hm => ?_) ltab_nil
    obtain ⟨rfl, rfl, rfl, rfl, rfl⟩ := oneF_mem hm
    rw [I64_len]
    unfold gaS gbS
    rw [toInts_I64, toInts_I64]
    exact q
  exact ⟨noGd_of rfl, tab [(30, woP cW wW)], _, tabW_ok, hls, 30, _, Wk.refl _, (gr_call ..).trans (bif_step sameS_t rfl)⟩
end
end Go.Proofs.Ytfcedalbamafiaa
