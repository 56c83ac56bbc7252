/- AuditOnce and AuditMore: what is proved of the given program. It bears no condition. -/
import Derived.Test.YtgbddcdpbgaojaaAuV
namespace Go.Proofs.Ytgbddcdpbgaojaa
open Go Go.Im
set_option linter.unusedVariables false
set_option linter.unusedSimpArgs false
noncomputable section

/-! ### The fixed example -/
abbrev a1 : IV := .agg [.int .i64 1, .int .u32 2, .int .u32 1, .int .i64 0, .fsl (some false) false 1 [.int .u8 120]]
abbrev a2 : IV := .agg [.int .i64 3, .int .u32 1, .int .u32 2, .int .i64 0, .fsl (some false) false 1 [.int .u8 120]]
def cA3 (l : List IV) : Bool := @decide (l = [a1, a2, a2]) (Classical.propDecidable _)
def cA2 (l : List IV) : Bool := @decide (l = [a1, a2]) (Classical.propDecidable _)
theorem ex3 : cM [a1, a2, a2] = true ∧ gM [a1, a2, a2] = [.agg [.int .i64 1, .int .i64 0], .agg [.int .i64 2, .int .i64 (-1)]] := ⟨by kernel_rfl, by kernel_rfl⟩
theorem ex2 : cM [a1, a2] = true ∧ gM [a1, a2] = [.agg [.int .i64 1, .int .i64 0]] := ⟨by kernel_rfl, by kernel_rfl⟩
theorem matC_known : Known Try.prog hint 11 (matC cA3 cA2) := by
  intro f us T r T1 hr
  refine match_known f us T r T1 ?_
  simp only at hr ⊢
  split at hr
  case isFalse => cases hr
  rename_i hf
  rw [if_pos hf]
  obtain ⟨x, hF, e⟩ := Option.map_eq_some_iff.1 hr
  refine Option.map_eq_some_iff.2 ⟨x, ?_, e⟩
  have ht := List.find?_some hF
  have hm := List.mem_of_find?_eq_some hF
  unfold matC at hm
  split at hm
  case h_2 => cases hm
  rename_i nl cl l
  split at hm
  · rename_i x0 x1 x2
    rw [List.mem_singleton] at hm
    subst hm
    have hl : [x0, x1, x2] = [a1, a2, a2] := @of_decide_eq_true _ (Classical.propDecidable _) ht
    rw [hl]
    unfold matP
    simp only [List.find?_cons, ex3.1, ex3.2]
    have : cA3 [a1, a2, a2] = true := @decide_eq_true _ (Classical.propDecidable _) rfl
    rw [this]
  · rename_i x0 x1
    rw [List.mem_singleton] at hm
    subst hm
    have hl : [x0, x1] = [a1, a2] := @of_decide_eq_true _ (Classical.propDecidable _) ht
    rw [hl]
    unfold matP
    simp only [List.find?_cons, ex2.1, ex2.2]
    have : cA2 [a1, a2] = true := @decide_eq_true _ (Classical.propDecidable _) rfl
    rw [this]
  · cases hm
theorem alive_known : Known Try.prog hint 10 (constF (.bool true)) := by
  refine known_of fits (spec := tab [(11, matC cA3 cA2)]) (tab_cons matC_known tab_nil) loops_none ?_
  intro xs T v T1 h
  unfold constF at h
  split at h
  · simp only [List.mem_cons, List.not_mem_nil, or_false, Prod.mk.injEq] at h
    obtain ⟨_, rfl, rfl⟩ := h
    refine ⟨60, (alive_tree cA3 cA2).trans (bif_step ?_ (bif_step ?_ (bif_step ?_ rfl)))⟩
    · exact @decide_eq_true _ (Classical.propDecidable _) rfl
    · exact @decide_eq_true _ (Classical.propDecidable _) rfl
    · exact @decide_eq_true _ (Classical.propDecidable _) rfl
  · cases h

/-! ### Rows of matches -/
theorem cM_O {l : List IV} (h1 : l.all isEv = true) (h2 : l.length ≤ 1000) : cM (gO l) = true := by
  unfold cM gO
  rw [all_F (all_ok h1), List.length_map, List.length_map, decide_eq_true h2]; rfl
theorem gM_O (l : List IV) : gM (gO l) = (mat (evs l)).map ivM := by
  unfold gM gO
  show (mat (evs ((evs l).map evF))).map ivM = _
  rw [evs_F]
theorem nthM {out : List (Int × Int)} {i : Nat} (h : i < out.length) : nthD (out.map ivM) ((i : Int)).toNat = .agg [.int .i64 out[i].1, .int .i64 out[i].2] := by
  rw [nthD_at (by simpa using h), List.getElem_map]; rfl
theorem mat_len (l : List Ev) : (mat l).length ≤ l.length := out_len l

/-! ### How many matches -/
def cntS (n : Nat) (m : Int × Int) : Nat := if m.2 ≥ 0 then n + 1 else n
def cnt (out : List (Int × Int)) : Nat := out.foldl cntS 0
theorem mt_runs {out : List (Int × Int)} (hl : out.length ≤ 1000) {sp : FuncId → Option SpecF} :
    EachOK Try.prog hint (acall Try.prog hint (ovrOf sp)) 0 (hint.kp 21) (loopAt Try.prog 21 122) (Sx 21 (mtV (out.map ivM) ((0 : Nat) : Int) ((0 : Nat) : Int)) []) (.exit 0)
      (fun n : Nat => Sx 21 (mtV (out.map ivM) (n : Int) (out.length : Int)) []) (foldE (fun (_ : Nat) n m => (Sum.inl (cntS n m) : Nat ⊕ (Ex × St))) 0 0 out) := by
  refine runs_each (X := Nat) (l := out) (n := 30) (ls := fun _ _ => none) loops_none inner0 (fun i n => Sx 21 (mtV (out.map ivM) ((n : Nat) : Int) (i : Int)) []) _
    (fun i n => n ≤ i) (by simp) ?_ ?_ out.length 0 0 (by omega) (Nat.le_refl _)
  · intro i n hi hn
    refine .inl ⟨_, rfl, ?_, by unfold cntS; split <;> omega⟩
    have ht := mt_in sp (out.map ivM) n i
    rw [nthM hi, List.length_map, wadd1 (by omega), wadd1 (by omega)] at ht
    replace ht := fun r k => ht.trans (bif_step (r := r) (decide_eq_true (by omega)) (bif_step (decide_eq_true ⟨rfl, by omega, by omega⟩) (bif_step rfl k)))
    unfold cntS
    by_cases h : out[i].2 ≥ 0
    · rw [if_pos h]
      exact ht _ (bif_step (decide_eq_true h) rfl)
    · rw [if_neg h]
      exact ht _ (bif_stepF (decide_eq_false h) rfl)
  · intro n hn
    have ht := mt_in sp (out.map ivM) n out.length
    rw [List.length_map] at ht
    exact ht.trans (bif_stepF (decide_eq_false (by omega)) rfl)
def gT (l : List IV) : Int := ((cnt (mat (evs l)) : Nat) : Int)
abbrev tabT' : FuncId → Option SpecF := tabT cM gM cO gO
theorem tabT_ok : ∀ f F, tabT' f = some F → Known Try.prog hint f F := tab_cons match_known (tab_cons own_known tab_nil)
theorem matched_known : Known Try.prog hint 21 (mtP cO gT) := by
  refine known_alt fits fun us T v T1 h => ?_
  unfold mtP at h
  split at h
  case h_2 => cases h
  rename_i nl cl l
  simp only [List.mem_cons, List.not_mem_nil, or_false, Prod.mk.injEq, Bool.true_eq] at h
  obtain ⟨h0, rfl, rfl⟩ := h
  have hc := h0
  simp only [cO, Bool.and_eq_true, decide_eq_true_eq] at hc
  obtain ⟨h1, h2⟩ := hc
  refine ⟨[[.fsl nl cl 5 l]], by simp, Splits.self _, fun ys hy => ?_⟩
  rw [List.mem_singleton] at hy
  subst hy
  have hml := mat_len (evs l)
  rw [List.length_map] at hml
  have q := mt_runs (out := mat (evs l)) (by omega) (sp := tabT')
  rw [foldE_inl (g := cntS) (fun _ _ _ => rfl)] at q
  have hls : LoopsOK Try.prog hint (acall Try.prog hint (ovrOf tabT')) (ltab [(21, 122, LF 21 0 (oneF (mtV (gM (gO l)) 0 0) [] (.exit 0) (mtV (gM (gO l)) (gT l) ((gM (gO l)).length : Int)) []))]) := by
    refine ltab_cons (by kernel_rfl) (loopF_ok fun vs bx e vs' bx' hm => ?_) ltab_nil
    obtain ⟨rfl, rfl, rfl, rfl, rfl⟩ := oneF_mem hm
    rw [gM_O, List.length_map]
    exact q
  exact ⟨noGd_of rfl, tabT', _, tabT_ok, hls, 30, _, Wk.refl _, (mt_call cM gM cO gO nl cl l (gT l)).trans (bif_step h0 (bif_step (cM_O h1 h2) (bif_step sameS_t rfl)))⟩

/-! ### AuditOnce -/
abbrev tabV' : FuncId → Option SpecF := tabV cE gLong cM gM cO gO cA gA
theorem tabV_ok : ∀ f F, tabV' f = some F → Known Try.prog hint f F := tab_cons long_known (tab_cons alive_known (tab_cons match_known (tab_cons own_known (tab_cons alike_known tab_nil))))
abbrev NV : Nat → CallF := acall Try.prog hint (ovrOf tabV')
theorem inn_runs {out : List (Int × Int)} (hl : out.length ≤ 1000) {nl : Option Bool} {cl : Bool} {l : List IV} {i : Nat} (hi : i < out.length) (hne : ∀ k (h : k < i), out[k].2 ≠ out[i].2) :
    EachOK Try.prog hint NV 0 (hint.kp 5) (loopAt Try.prog 5 62622) (Sx 5 (onV nl cl l (out.map ivM) (i : Int) (.int .i64 ((0 : Nat) : Int))) []) (.exit 2)
      (fun _ : Unit => Sx 5 (onV nl cl l (out.map ivM) (i : Int) (.int .i64 (i : Int))) []) (foldE (fun (_ : Nat) (_ : Unit) (_ : Int × Int) => (Sum.inl () : Unit ⊕ (Ex × St))) 0 () (out.take i)) := by
  have hti : (out.take i).length = i := by simp; omega
  refine runs_each (X := Unit) (l := out.take i) (n := 30) (ls := fun _ _ => none) loops_none inner0 (fun k _ => Sx 5 (onV nl cl l (out.map ivM) (i : Int) (.int .i64 (k : Int))) []) _
    (fun _ _ => True) (by simp) ?_ ?_ (out.take i).length 0 () (by omega) trivial
  · intro k _ hk _
    rw [hti] at hk
    refine .inl ⟨(), rfl, ?_, trivial⟩
    have hk' : k < out.length := by omega
    have ht := on_inn tabV' nl cl l (out.map ivM) i k
    rw [nthM hk', nthM hi, List.length_map, wadd1 (by omega)] at ht
    refine ht.trans (bif_step (decide_eq_true (by omega)) (bif_step (decide_eq_true ⟨rfl, by omega, by omega⟩) (bif_step rfl (bif_step (decide_eq_true ⟨rfl, by omega, by omega⟩) (bif_step rfl (bif_stepF ?_ rfl))))))
    exact beq_eq_false_iff_ne.2 (hne k hk)
  · intro _ _
    rw [hti]
    have ht := on_inn tabV' nl cl l (out.map ivM) i i
    exact ht.trans (bif_stepF (decide_eq_false (by omega)) rfl)
theorem in5 : loopsOf (2 * 122) (loopAt Try.prog 5 122) = [(62622, itemAt Try.prog 5 62622)] := by kernel_rfl
abbrev onL (nl : Option Bool) (cl : Bool) (l : List IV) (out : List (Int × Int)) (i : Nat) : FuncId → Nat → Option LoopF := ltab [(5, 62622, LF 5 0 (oneF (onV nl cl l (out.map ivM) (i : Int) (.int .i64 0)) [] (.exit 2) (onV nl cl l (out.map ivM) (i : Int) (.int .i64 (i : Int))) []))]
theorem onL_ok {nl : Option Bool} {cl : Bool} {l : List IV} {out : List (Int × Int)} {i : Nat} (hl : out.length ≤ 1000) (hi : i < out.length) (hne : ∀ k (h : k < i), out[k].2 ≠ out[i].2) : LoopsOK Try.prog hint NV (onL nl cl l out i) ∧
    ItemsOK Try.prog hint NV (itOf Try.prog hint NV) (onL nl cl l out i 5) (hint.kp 5) (2 * 122) (loopAt Try.prog 5 122) := by
  have h1 : LoopOK Try.prog hint NV (itOf Try.prog hint NV) (hint.kp 5) (itemAt Try.prog 5 62622) (LF 5 0 (oneF (onV nl cl l (out.map ivM) (i : Int) (.int .i64 0)) [] (.exit 2) (onV nl cl l (out.map ivM) (i : Int) (.int .i64 (i : Int))) [])) := by
    refine loopF_ok fun vs bx e vs' bx' hm => ?_
    obtain ⟨rfl, rfl, rfl, rfl, rfl⟩ := oneF_mem hm
    have q := inn_runs hl (nl := nl) (cl := cl) (l := l) hi hne
    rw [foldE_inl (g := fun (_ : Unit) (_ : Int × Int) => ()) (fun _ _ _ => rfl)] at q
    exact q
  refine ⟨ltab_cons (by kernel_rfl) h1 ltab_nil, ?_⟩
  intro x hx F hF
  rw [in5, List.mem_singleton] at hx
  subst hx
  cases hF
  exact h1
theorem no5_ok : LoopsOK Try.prog hint NV (ltab [(5, 62622, noL)]) ∧ ItemsOK Try.prog hint NV (itOf Try.prog hint NV) (ltab [(5, 62622, noL)] 5) (hint.kp 5) (2 * 122) (loopAt Try.prog 5 122) := by
  have h1 : LoopOK Try.prog hint NV (itOf Try.prog hint NV) (hint.kp 5) (itemAt Try.prog 5 62622) noL := fun p s e s' h => by cases h
  refine ⟨ltab_cons (by kernel_rfl) h1 ltab_nil, fun x hx F hF => ?_⟩
  rw [in5, List.mem_singleton] at hx
  subst hx
  cases hF
  exact h1
/-- What the rounds have left in the last slot. -/
def Lst (d : IV) : Prop := d = .undef ∨ ∃ k : Int, d = .int .i64 k
theorem on_round0 {l : List IV} (ha : l.all isEv = true) (hl : l.length ≤ 1000) {nl : Option Bool} {cl : Bool} {i : Nat} (hi : i < (mat (evs l)).length) :
    ∃ ls, (LoopsOK Try.prog hint NV ls ∧ ItemsOK Try.prog hint NV (itOf Try.prog hint NV) (ls 5) (hint.kp 5) (2 * 122) (loopAt Try.prog 5 122)) ∧ ∃ d', Lst d' ∧ Rl tabV' ls 0 5 122 (Sx 5 (onV nl cl l ((mat (evs l)).map ivM) (i : Int) IV.undef) []) = some (.normal, Sx 5 (onV nl cl l ((mat (evs l)).map ivM) ((i + 1 : Nat) : Int) d') []) := by
  have hml := mat_len (evs l)
  rw [List.length_map] at hml
  have hG := good_ms (evs l)
  have hE := hG.each _ (List.getElem_mem (l := (ms (evs l)).out) hi)
  obtain ⟨m1, m2, m3, m4, b, mb, mk, m5⟩ := hE
  have hne : ∀ k (h : k < i), 0 ≤ (mat (evs l))[i].2 → (mat (evs l))[k].2 ≠ (mat (evs l))[i].2 := fun k h h0 => (List.pairwise_iff_getElem.1 hG.apart) k i _ hi h h0
  have ev : ∀ {k : Int} {e : Ev}, 0 ≤ k → (evs l)[k.toNat]? = some e → ∃ nl cl, nthD l k.toNat = .agg [.int .i64 e.kind, .int .u32 e.host, .int .u32 e.peer, .int .i64 e.at_, .fsl nl cl 1 (u8s e.bytes)] := by
    intro k e h0 h
    obtain ⟨h1, h2⟩ := List.getElem?_eq_some_iff.1 h
    have h1' : k.toNat < l.length := by simpa using h1
    rw [List.getElem_map] at h2
    obtain ⟨nl', cl', hx, _⟩ := isEv_iff (List.all_eq_true.1 ha _ (List.getElem_mem h1'))
    rw [h2] at hx
    exact ⟨nl', cl', by simp [nthD, List.getD, h1', hx]⟩
  obtain ⟨nb, cb, eb⟩ := ev m1 mb
  have hll : (evs l).length = l.length := List.length_map ..
  rw [hll] at m2
  show ∃ ls, _
  change 0 ≤ (mat (evs l))[i].1 at m1
  change (mat (evs l))[i].1 < _ at m2
  change (mat (evs l))[i].2 < (mat (evs l))[i].1 at m3
  change nthD l (mat (evs l))[i].1.toNat = _ at eb
  change 0 ≤ (mat (evs l))[i].2 → _ at m5
  have hN := nthM hi
  have hlen : ((mat (evs l)).map ivM).length = (mat (evs l)).length := List.length_map ..
  have c2 : (2 : Nat) = 2 ∧ (0 : Int) ≤ (i : Int) ∧ (i : Int) < (((mat (evs l)).map ivM).length : Int) := ⟨rfl, by omega, by omega⟩
  have q0 : Im.intOf (nthD (List.drop 0 (IV.agg [.int .i64 (mat (evs l))[i].1, .int .i64 (mat (evs l))[i].2]).cells) 0) = (mat (evs l))[i].1 := Eq.trans rfl rfl
  have q1 : Im.intOf (nthD (List.drop 1 (IV.agg [.int .i64 (mat (evs l))[i].1, .int .i64 (mat (evs l))[i].2]).cells) 0) = (mat (evs l))[i].2 := Eq.trans rfl rfl
  by_cases hm : (mat (evs l))[i].2 < 0
  · refine ⟨ltab [(5, 62622, noL)], no5_ok, IV.undef, .inl rfl, ?_⟩
    have ht := on_n0 cE gLong cM gM cO gO cA gA nl cl l ((mat (evs l)).map ivM) i
    rw [hN, q0, q1, wadd1 (by omega)] at ht
    refine ht.trans (bif_step (decide_eq_true (by omega)) (bif_step (decide_eq_true c2) (bif_step rfl (bif_step ?_ (bif_step (decide_eq_true c2) (bif_step rfl (bif_step ?_ (bif_step (decide_eq_true c2) (bif_step rfl (bif_step (decide_eq_true c2) (bif_step rfl (bif_stepF ?_ (bif_step (decide_eq_true c2) (bif_step rfl (bif_step (decide_eq_true hm) rfl)))))))))))))))
    · rw [decide_eq_false (by omega)]; rfl
    · rw [cond_false, decide_eq_false (by omega)]; rfl
    · rw [cond_false]; exact decide_eq_false (by omega)
  · have hm' : 0 ≤ (mat (evs l))[i].2 := by omega
    obtain ⟨a, ma, mab⟩ := m5 hm'
    obtain ⟨na, ca, ea⟩ := ev hm' ma
    refine ⟨onL nl cl l (mat (evs l)) i, onL_ok (by omega) hi (fun k h => hne k h hm'), .int .i64 (i : Int), .inr ⟨_, rfl⟩, ?_⟩
    have ht := on_r0 cE gLong cM gM cO gO cA gA nl cl l ((mat (evs l)).map ivM) i
    rw [hN, q0, q1, ea, eb, wadd1 (by omega)] at ht
    have c3 : (5 : Nat) = 5 ∧ (0 : Int) ≤ (mat (evs l))[i].2 ∧ (mat (evs l))[i].2 < (l.length : Int) := ⟨rfl, hm', by omega⟩
    have c4 : (5 : Nat) = 5 ∧ (0 : Int) ≤ (mat (evs l))[i].1 ∧ (mat (evs l))[i].1 < (l.length : Int) := ⟨rfl, m1, m2⟩
    refine ht.trans (bif_step (decide_eq_true (by omega)) (bif_step (decide_eq_true c2) (bif_step rfl (bif_step ?_ (bif_step (decide_eq_true c2) (bif_step rfl (bif_step ?_ (bif_step (decide_eq_true c2) (bif_step rfl (bif_step (decide_eq_true c2) (bif_step rfl (bif_stepF ?_ (bif_step (decide_eq_true c2) (bif_step rfl (bif_stepF (decide_eq_false hm)
      (bif_step (decide_eq_true c2) (bif_step rfl (bif_step (decide_eq_true c3) (bif_step rfl (bif_step (decide_eq_true c2) (bif_step rfl (bif_step (decide_eq_true c4) (bif_step rfl (bif_step ?_ (bif_stepF ?_ (bif_step sameS_t rfl))))))))))))))))))))))))))
    · rw [decide_eq_false (by omega)]; rfl
    · rw [cond_false, decide_eq_false (by omega)]; rfl
    · rw [cond_false]; exact decide_eq_false (by omega)
    · show cA 1 (u8s a.bytes) 1 (u8s b.bytes) = true
      unfold cA
      rw [okB_u8s, okB_u8s]; rfl
    · show (!gA a.kind a.host a.peer (u8s a.bytes) b.kind b.host b.peer (u8s b.bytes)) = false
      unfold gA
      rw [toBytes_u8s, toBytes_u8s]
      have : alike ⟨a.kind, a.host, a.peer, 0, a.bytes⟩ ⟨b.kind, b.host, b.peer, 0, b.bytes⟩ = alike a b := rfl
      rw [this, mab]; rfl
theorem on_round1 {l : List IV} (ha : l.all isEv = true) (hl : l.length ≤ 1000) {nl : Option Bool} {cl : Bool} {i : Nat} {d : Int} (hi : i < (mat (evs l)).length) :
    ∃ ls, (LoopsOK Try.prog hint NV ls ∧ ItemsOK Try.prog hint NV (itOf Try.prog hint NV) (ls 5) (hint.kp 5) (2 * 122) (loopAt Try.prog 5 122)) ∧ ∃ d', Lst d' ∧ Rl tabV' ls 0 5 122 (Sx 5 (onV nl cl l ((mat (evs l)).map ivM) (i : Int) (.int .i64 d)) []) = some (.normal, Sx 5 (onV nl cl l ((mat (evs l)).map ivM) ((i + 1 : Nat) : Int) d') []) := by
  have hml := mat_len (evs l)
  rw [List.length_map] at hml
  have hG := good_ms (evs l)
  have hE := hG.each _ (List.getElem_mem (l := (ms (evs l)).out) hi)
  obtain ⟨m1, m2, m3, m4, b, mb, mk, m5⟩ := hE
  have hne : ∀ k (h : k < i), 0 ≤ (mat (evs l))[i].2 → (mat (evs l))[k].2 ≠ (mat (evs l))[i].2 := fun k h h0 => (List.pairwise_iff_getElem.1 hG.apart) k i _ hi h h0
  have ev : ∀ {k : Int} {e : Ev}, 0 ≤ k → (evs l)[k.toNat]? = some e → ∃ nl cl, nthD l k.toNat = .agg [.int .i64 e.kind, .int .u32 e.host, .int .u32 e.peer, .int .i64 e.at_, .fsl nl cl 1 (u8s e.bytes)] := by
    intro k e h0 h
    obtain ⟨h1, h2⟩ := List.getElem?_eq_some_iff.1 h
    have h1' : k.toNat < l.length := by simpa using h1
    rw [List.getElem_map] at h2
    obtain ⟨nl', cl', hx, _⟩ := isEv_iff (List.all_eq_true.1 ha _ (List.getElem_mem h1'))
    rw [h2] at hx
    exact ⟨nl', cl', by simp [nthD, List.getD, h1', hx]⟩
  obtain ⟨nb, cb, eb⟩ := ev m1 mb
  have hll : (evs l).length = l.length := List.length_map ..
  rw [hll] at m2
  show ∃ ls, _
  change 0 ≤ (mat (evs l))[i].1 at m1
  change (mat (evs l))[i].1 < _ at m2
  change (mat (evs l))[i].2 < (mat (evs l))[i].1 at m3
  change nthD l (mat (evs l))[i].1.toNat = _ at eb
  change 0 ≤ (mat (evs l))[i].2 → _ at m5
  have hN := nthM hi
  have hlen : ((mat (evs l)).map ivM).length = (mat (evs l)).length := List.length_map ..
  have c2 : (2 : Nat) = 2 ∧ (0 : Int) ≤ (i : Int) ∧ (i : Int) < (((mat (evs l)).map ivM).length : Int) := ⟨rfl, by omega, by omega⟩
  have q0 : Im.intOf (nthD (List.drop 0 (IV.agg [.int .i64 (mat (evs l))[i].1, .int .i64 (mat (evs l))[i].2]).cells) 0) = (mat (evs l))[i].1 := Eq.trans rfl rfl
  have q1 : Im.intOf (nthD (List.drop 1 (IV.agg [.int .i64 (mat (evs l))[i].1, .int .i64 (mat (evs l))[i].2]).cells) 0) = (mat (evs l))[i].2 := Eq.trans rfl rfl
  by_cases hm : (mat (evs l))[i].2 < 0
  · refine ⟨ltab [(5, 62622, noL)], no5_ok, (.int .i64 d), .inr ⟨_, rfl⟩, ?_⟩
    have ht := on_n1 cE gLong cM gM cO gO cA gA nl cl l ((mat (evs l)).map ivM) i d
    rw [hN, q0, q1, wadd1 (by omega)] at ht
    refine ht.trans (bif_step (decide_eq_true (by omega)) (bif_step (decide_eq_true c2) (bif_step rfl (bif_step ?_ (bif_step (decide_eq_true c2) (bif_step rfl (bif_step ?_ (bif_step (decide_eq_true c2) (bif_step rfl (bif_step (decide_eq_true c2) (bif_step rfl (bif_stepF ?_ (bif_step (decide_eq_true c2) (bif_step rfl (bif_step (decide_eq_true hm) rfl)))))))))))))))
    · rw [decide_eq_false (by omega)]; rfl
    · rw [cond_false, decide_eq_false (by omega)]; rfl
    · rw [cond_false]; exact decide_eq_false (by omega)
  · have hm' : 0 ≤ (mat (evs l))[i].2 := by omega
    obtain ⟨a, ma, mab⟩ := m5 hm'
    obtain ⟨na, ca, ea⟩ := ev hm' ma
    refine ⟨onL nl cl l (mat (evs l)) i, onL_ok (by omega) hi (fun k h => hne k h hm'), .int .i64 (i : Int), .inr ⟨_, rfl⟩, ?_⟩
    have ht := on_r1 cE gLong cM gM cO gO cA gA nl cl l ((mat (evs l)).map ivM) i d
    rw [hN, q0, q1, ea, eb, wadd1 (by omega)] at ht
    have c3 : (5 : Nat) = 5 ∧ (0 : Int) ≤ (mat (evs l))[i].2 ∧ (mat (evs l))[i].2 < (l.length : Int) := ⟨rfl, hm', by omega⟩
    have c4 : (5 : Nat) = 5 ∧ (0 : Int) ≤ (mat (evs l))[i].1 ∧ (mat (evs l))[i].1 < (l.length : Int) := ⟨rfl, m1, m2⟩
    refine ht.trans (bif_step (decide_eq_true (by omega)) (bif_step (decide_eq_true c2) (bif_step rfl (bif_step ?_ (bif_step (decide_eq_true c2) (bif_step rfl (bif_step ?_ (bif_step (decide_eq_true c2) (bif_step rfl (bif_step (decide_eq_true c2) (bif_step rfl (bif_stepF ?_ (bif_step (decide_eq_true c2) (bif_step rfl (bif_stepF (decide_eq_false hm)
      (bif_step (decide_eq_true c2) (bif_step rfl (bif_step (decide_eq_true c3) (bif_step rfl (bif_step (decide_eq_true c2) (bif_step rfl (bif_step (decide_eq_true c4) (bif_step rfl (bif_step ?_ (bif_stepF ?_ (bif_step sameS_t rfl))))))))))))))))))))))))))
    · rw [decide_eq_false (by omega)]; rfl
    · rw [cond_false, decide_eq_false (by omega)]; rfl
    · rw [cond_false]; exact decide_eq_false (by omega)
    · show cA 1 (u8s a.bytes) 1 (u8s b.bytes) = true
      unfold cA
      rw [okB_u8s, okB_u8s]; rfl
    · show (!gA a.kind a.host a.peer (u8s a.bytes) b.kind b.host b.peer (u8s b.bytes)) = false
      unfold gA
      rw [toBytes_u8s, toBytes_u8s]
      have : alike ⟨a.kind, a.host, a.peer, 0, a.bytes⟩ ⟨b.kind, b.host, b.peer, 0, b.bytes⟩ = alike a b := rfl
      rw [this, mab]; rfl
theorem on_runs {l : List IV} (ha : l.all isEv = true) (hl : l.length ≤ 1000) {nl : Option Bool} {cl : Bool} : ∀ (k i : Nat) (d : IV), i + k = (mat (evs l)).length → Lst d →
    ∃ d', Lst d' ∧ Runs Try.prog hint NV 0 (hint.kp 5) (loopAt Try.prog 5 122) (Sx 5 (onV nl cl l ((mat (evs l)).map ivM) (i : Int) d) []) (.exit 0) (Sx 5 (onV nl cl l ((mat (evs l)).map ivM) ((mat (evs l)).length : Int) d') []) := by
  intro k
  induction k with
  | zero =>
    intro i d hi hd
    have : i = (mat (evs l)).length := by omega
    subst this
    refine ⟨d, hd, ?_⟩
    have hlen : ((mat (evs l)).map ivM).length = (mat (evs l)).length := List.length_map ..
    rcases hd with rfl | ⟨d, rfl⟩
    · exact Runs.last no5_ok.1 no5_ok.2 (by simp) ((on_n0 cE gLong cM gM cO gO cA gA nl cl l ((mat (evs l)).map ivM) ((mat (evs l)).length : Int)).trans (bif_stepF (decide_eq_false (by omega)) rfl))
    · exact Runs.last no5_ok.1 no5_ok.2 (by simp) ((on_n1 cE gLong cM gM cO gO cA gA nl cl l ((mat (evs l)).map ivM) ((mat (evs l)).length : Int) d).trans (bif_stepF (decide_eq_false (by omega)) rfl))
  | succ k ih =>
    intro i d hi hd
    rcases hd with rfl | ⟨d, rfl⟩
    · obtain ⟨ls, hok, d', hd', hr⟩ := on_round0 ha hl (nl := nl) (cl := cl) (i := i) (by omega)
      obtain ⟨d2, h2, hrun⟩ := ih (i + 1) d' (by omega) hd'
      exact ⟨d2, h2, Runs.step hok.1 hok.2 hr hrun⟩
    · obtain ⟨ls, hok, d', hd', hr⟩ := on_round1 ha hl (nl := nl) (cl := cl) (i := i) (d := d) (by omega)
      obtain ⟨d2, h2, hrun⟩ := ih (i + 1) d' (by omega) hd'
      exact ⟨d2, h2, Runs.step hok.1 hok.2 hr hrun⟩
end
end Go.Proofs.Ytgbddcdpbgaojaa
