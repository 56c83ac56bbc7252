/- Thefts: the whole call. It bears no condition. -/
import Derived.Test.YtgbddcdpbgaojaaBaE
namespace Go.Proofs.Ytgbddcdpbgaojaa
open Go Go.Im
set_option linter.unusedVariables false
set_option linter.unusedSimpArgs false
set_option maxRecDepth 20000
noncomputable section

def cT (l : List IV) (_told : Int) (fs : List IV) : Bool := l.all isEv && decide (l.length ≤ 1000) && (evs l).all shortE && (fs.all isFc && decide (fs.length ≤ 1000))
def gTa (l : List IV) (told : Int) (fs : List IV) : Int := (theft (evs l) told (fcs fs)).1
def gTe (l : List IV) (told : Int) (fs : List IV) : Int := (theft (evs l) told (fcs fs)).2
theorem th_known : Known Try.prog hint 14 (thP cT gTa gTe) := by
  refine known_alt fits fun us T v T1 h => ?_
  unfold thP at h
  split at h
  case h_2 => cases h
  rename_i nl0 cl0 l told nl1 cl1 fs
  simp only [List.mem_cons, List.not_mem_nil, or_false, Prod.mk.injEq, Bool.true_eq] at h
  obtain ⟨h1, rfl, rfl⟩ := h
  unfold cT at h1
  simp only [Bool.and_eq_true, decide_eq_true_eq] at h1
  obtain ⟨⟨⟨ha, hl⟩, hs⟩, hf, hfl⟩ := h1
  refine ⟨[[.fsl none false 5 l, .int .i64 told, .fsl none false 2 fs]], by simp, Splits.wk (WkL.cons (Wk.fsl rfl (.inl rfl) (by simp) (.inl rfl)) (WkL.cons (Wk.refl _) (WkL.cons (Wk.fsl rfl (.inl rfl) (by simp) (.inl rfl)) WkL.nil))), fun ys hy => ?_⟩
  rw [List.mem_singleton] at hy
  subst hy
  have hlen : (evs l).length = l.length := List.length_map ..
  have hflen : (fcs fs).length = fs.length := List.length_map ..
  by_cases ht : told < 0 ∨ told ≥ (l.length : Int)
  · -- out of the log
    have e1 : theft (evs l) told (fcs fs) = (0, 1) := by unfold theft; rw [if_pos (by rw [hlen]; exact ht)]
    have hb : ((bif decide (told < (0 : Int)) then true else decide (told ≥ (l.length : Int))) == false) = false := by
      rcases ht with ht | ht
      · rw [decide_eq_true ht]; rfl
      · rw [decide_eq_true ht]; cases decide (told < (0 : Int)) <;> rfl
    refine ⟨noGd_of rfl, tabT4, ltab [(24, 26, noL), (14, 1018, noL)], tabT4_ok, ltab_cons (by kernel_rfl) (fun p s e s' h => by cases h) (ltab_cons (by kernel_rfl) (fun p s e s' h => by cases h) ltab_nil), 30, _, Wk.refl _, ?_⟩
    unfold gTa gTe
    rw [e1]
    exact (th_none cS gS l fs told).trans (bif_stepF hb rfl)
  have ht1 : 0 ≤ told := by omega
  have ht2 : told < (l.length : Int) := by omega
  obtain ⟨i, rfl⟩ : ∃ i : Nat, told = i := ⟨told.toNat, by omega⟩
  have hi : i < l.length := by omega
  have hb : ((bif decide (((i : Nat) : Int) < (0 : Int)) then true else decide (((i : Nat) : Int) ≥ (l.length : Int))) == false) = true := by
    rw [decide_eq_false (by omega), decide_eq_false (by omega)]; rfl
  obtain ⟨ni, ci, hxi, _⟩ := isEv_iff (List.all_eq_true.1 ha _ (List.getElem_mem hi))
  have hNi := nthD_at hi
  have hei : (evs l)[i]? = some (evOf l[i]) := by simp [evs, hi]
  rw [hxi] at hNi
  generalize hte : evOf l[i] = t at *
  have q0 : Im.intOf (nthD (List.drop 0 (IV.agg [.int .i64 t.kind, .int .u32 t.host, .int .u32 t.peer, .int .i64 t.at_, .fsl ni ci 1 (u8s t.bytes)]).cells) 0) = t.kind := Eq.trans rfl rfl
  have c5 : (5 : Nat) = 5 ∧ (0 : Int) ≤ (i : Int) ∧ (i : Int) < (l.length : Int) := ⟨rfl, by omega, by omega⟩
  have eT : theft (evs l) (i : Int) (fcs fs) = if t.kind ≠ 3 then ((0 : Int), (1 : Int)) else
      match ((evs l).take i).findIdx? (stolen t (u8s ((faceTx t.host (fcs fs)).getD [])) (faceTx t.host (fcs fs)).isSome) with
      | none => (0, 4)
      | some k => ((k : Int), 0) := by
    unfold theft
    rw [if_neg (by rw [hlen]; omega), Int.toNat_natCast, hei]
    rfl
  by_cases k3 : t.kind = 3
  case neg =>
    have e1 : theft (evs l) (i : Int) (fcs fs) = (0, 1) := by rw [eT, if_pos k3]
    refine ⟨noGd_of rfl, tabT4, ltab [(24, 26, noL), (14, 1018, noL)], tabT4_ok, ltab_cons (by kernel_rfl) (fun p s e s' h => by cases h) (ltab_cons (by kernel_rfl) (fun p s e s' h => by cases h) ltab_nil), 30, _, Wk.refl _, ?_⟩
    unfold gTa gTe
    rw [e1]
    refine (th_none cS gS l fs i).trans ?_
    rw [hNi, q0]
    exact bif_step hb (bif_step (decide_eq_true c5) (bif_step rfl (bif_step (bne_iff_ne.2 k3) rfl)))
  case pos =>
  rw [if_neg (fun h => h k3)] at eT
  have kb : (t.kind != (3 : Int)) = false := by rw [k3]; rfl
  have hev : evC (nthD l ((i : Int)).toNat) = [.int .i64 t.kind, .int .u32 t.host, .int .u32 t.peer, .int .i64 t.at_, .fsl ni ci 1 (u8s t.bytes)] := by rw [hNi]; exact Eq.trans rfl rfl
  have c6 : (0 : Int) ≤ (0 : Int) ∧ (0 : Int) ≤ (i : Int) ∧ (i : Int) ≤ (l.length : Int) := ⟨by omega, by omega, by omega⟩
  have htk : tk l (i : Int) = l.take i := by show List.take (((i : Int)).toNat - 0) (List.drop 0 l) = _; rw [Int.toNat_natCast]; rfl
  have haT : (l.take i).all isEv = true := List.all_eq_true.2 fun x hx => List.all_eq_true.1 ha x (List.mem_of_mem_take hx)
  have hlT : (l.take i).length ≤ 1000 := by rw [List.length_take]; omega
  have hsT : (evs (l.take i)).all shortE = true := List.all_eq_true.2 fun x hx => List.all_eq_true.1 hs x (by
    obtain ⟨y, hy, rfl⟩ := List.mem_map.1 hx
    exact List.mem_map_of_mem (List.mem_of_mem_take hy))
  have heT : evs (l.take i) = (evs l).take i := List.map_take ..
  have Q := ix_runs hf hfl (k := t.kind) (h := t.host) (p := t.peer) (a := t.at_) (nl := ni) (cl := ci) (z := 1) (b := u8s t.bytes)
  have F := find_ix t.host (fcs fs)
  cases hix : faceIx t.host (fcs fs) with
  | none =>
    rw [hix] at Q F
    replace F : faceTx t.host (fcs fs) = none := F
    have R := th_runs haT hlT hsT (t := t) (nl := ni) (cl := ci) (z := 1) (b := u8s t.bytes) (nl' := some true) (cl' := true) (z' := 0) (x := []) (by rfl) (ix := -1)
    rw [heT] at R
    have eT' : theft (evs l) (i : Int) (fcs fs) = match ((evs l).take i).findIdx? (stolen t [] (decide ((-1 : Int) ≥ 0))) with | none => (0, 4) | some k => ((k : Int), 0) := by
      rw [eT, F]; rfl
    cases hfi : ((evs l).take i).findIdx? (stolen t [] (decide ((-1 : Int) ≥ 0))) with
    | none =>
      rw [hfi] at R eT'
      have hls : LoopsOK Try.prog hint NT (ltab [(24, 26, LF 24 1 (oneF (ixV fs 0 0) [.var false (evC (nthD l ((i : Int)).toNat))] (.exit 0) (ixV fs 0 (fs.length : Int)) [.var false (evC (nthD l ((i : Int)).toNat))])), (14, 1018, LF 14 0 (oneF (thV 0 0 nilT (-1) (tk l (i : Int)) 0) [.var false (evC (nthD l ((i : Int)).toNat))] (.exit 0) (thV 0 0 nilT (-1) (tk l (i : Int)) ((tk l (i : Int)).length : Int)) [.var false (evC (nthD l ((i : Int)).toNat))]))]) := by
        rw [hev, htk]
        refine ltab_cons (by kernel_rfl) (loopF_ok fun vs bx e vs' bx' hm => ?_) (ltab_cons (by kernel_rfl) (loopF_ok fun vs bx e vs' bx' hm => ?_) ltab_nil)
        · obtain ⟨rfl, rfl, rfl, rfl, rfl⟩ := oneF_mem hm
          exact Q
        · obtain ⟨rfl, rfl, rfl, rfl, rfl⟩ := oneF_mem hm
          exact R
      refine ⟨noGd_of rfl, tabT4, _, tabT4_ok, hls, 30, _, Wk.refl _, ?_⟩
      unfold gTa gTe
      rw [eT']
      refine (th_no0 cS gS l fs i).trans (bif_step hb (bif_step (decide_eq_true c5) ?_))
      rw [hNi, q0]
      exact bif_step rfl (bif_stepF kb (bif_step (decide_eq_true c5) (bif_step rfl (bif_step sameS_t (bif_step (decide_eq_true c6) (bif_step sameS_t rfl))))))
    | some j =>
      rw [hfi] at R eT'
      have hls : LoopsOK Try.prog hint NT (ltab [(24, 26, LF 24 1 (oneF (ixV fs 0 0) [.var false (evC (nthD l ((i : Int)).toNat))] (.exit 0) (ixV fs 0 (fs.length : Int)) [.var false (evC (nthD l ((i : Int)).toNat))])), (14, 1018, LF 14 0 (oneF (thV 0 0 nilT (-1) (tk l (i : Int)) 0) [.var false (evC (nthD l ((i : Int)).toNat))] .ret (thV (j : Int) 0 nilT (-1) (tk l (i : Int)) (j : Int)) [.var false (evC (nthD l ((i : Int)).toNat))]))]) := by
        rw [hev, htk]
        refine ltab_cons (by kernel_rfl) (loopF_ok fun vs bx e vs' bx' hm => ?_) (ltab_cons (by kernel_rfl) (loopF_ok fun vs bx e vs' bx' hm => ?_) ltab_nil)
        · obtain ⟨rfl, rfl, rfl, rfl, rfl⟩ := oneF_mem hm
          exact Q
        · obtain ⟨rfl, rfl, rfl, rfl, rfl⟩ := oneF_mem hm
          exact R
      refine ⟨noGd_of rfl, tabT4, _, tabT4_ok, hls, 30, _, Wk.refl _, ?_⟩
      unfold gTa gTe
      rw [eT']
      refine (th_yes0 cS gS l fs i j).trans (bif_step hb (bif_step (decide_eq_true c5) ?_))
      rw [hNi, q0]
      exact bif_step rfl (bif_stepF kb (bif_step (decide_eq_true c5) (bif_step rfl (bif_step sameS_t (bif_step (decide_eq_true c6) (bif_step sameS_t rfl))))))
  | some m =>
    rw [hix] at Q F
    obtain ⟨hm, F⟩ := F
    have hm' : m < fs.length := by rw [← hflen]; exact hm
    obtain ⟨nf, cf, hxf, _⟩ := isFc_iff (List.all_eq_true.1 hf _ (List.getElem_mem hm'))
    have hef : (fcs fs)[m] = fcOf fs[m] := by simp [fcs]
    rw [hef] at F
    have hNf := nthD_at hm'
    rw [hxf] at hNf
    generalize fcOf fs[m] = f at *
    have hfc : fcT (nthD fs ((m : Int)).toNat) = .fsl nf cf 1 (u8s f.2) := by rw [hNf]; exact Eq.trans rfl rfl
    have R := th_runs haT hlT hsT (t := t) (nl := ni) (cl := ci) (z := 1) (b := u8s t.bytes) (nl' := nf) (cl' := cf) (z' := 1) (x := u8s f.2) (by rw [isBytes_u8s]; rfl) (ix := (m : Int))
    rw [heT] at R
    have eT' : theft (evs l) (i : Int) (fcs fs) = match ((evs l).take i).findIdx? (stolen t (u8s f.2) (decide ((m : Int) ≥ 0))) with | none => (0, 4) | some k => ((k : Int), 0) := by
      rw [eT, F, decide_eq_true (show (m : Int) ≥ 0 by omega)]; rfl
    have c7 : (2 : Nat) = 2 ∧ (0 : Int) ≤ (m : Int) ∧ (m : Int) < (fs.length : Int) := ⟨rfl, by omega, by omega⟩
    have c8 : decide ((m : Int) ≥ (0 : Int)) = true := decide_eq_true (by omega)
    have c9 : isOf .sl (nthD (List.drop 1 (nthD fs ((m : Int)).toNat).cells) 0) = true := by rw [hNf]; exact Eq.trans rfl rfl
    cases hfi : ((evs l).take i).findIdx? (stolen t (u8s f.2) (decide ((m : Int) ≥ 0))) with
    | none =>
      rw [hfi] at R eT'
      have hls : LoopsOK Try.prog hint NT (ltab [(24, 26, LF 24 1 (oneF (ixV fs 0 0) [.var false (evC (nthD l ((i : Int)).toNat))] .ret (ixV fs (m : Int) (m : Int)) [.var false (evC (nthD l ((i : Int)).toNat))])), (14, 1018, LF 14 0 (oneF (thV 0 0 (fcT (nthD fs ((m : Int)).toNat)) (m : Int) (tk l (i : Int)) 0) [.var false (evC (nthD l ((i : Int)).toNat))] (.exit 0) (thV 0 0 (fcT (nthD fs ((m : Int)).toNat)) (m : Int) (tk l (i : Int)) ((tk l (i : Int)).length : Int)) [.var false (evC (nthD l ((i : Int)).toNat))]))]) := by
        rw [hev, htk, hfc]
        refine ltab_cons (by kernel_rfl) (loopF_ok fun vs bx e vs' bx' hm => ?_) (ltab_cons (by kernel_rfl) (loopF_ok fun vs bx e vs' bx' hm => ?_) ltab_nil)
        · obtain ⟨rfl, rfl, rfl, rfl, rfl⟩ := oneF_mem hm
          exact Q
        · obtain ⟨rfl, rfl, rfl, rfl, rfl⟩ := oneF_mem hm
          exact R
      refine ⟨noGd_of rfl, tabT4, _, tabT4_ok, hls, 30, _, Wk.refl _, ?_⟩
      unfold gTa gTe
      rw [eT']
      refine (th_no1 cS gS l fs i m).trans (bif_step hb (bif_step (decide_eq_true c5) ?_))
      rw [hNi, q0]
      exact bif_step rfl (bif_stepF kb (bif_step (decide_eq_true c5) (bif_step rfl (bif_step sameS_t (bif_step c8 (bif_step (decide_eq_true c7) (bif_step c9 (bif_step (decide_eq_true c6) (bif_step sameS_t rfl)))))))))
    | some j =>
      rw [hfi] at R eT'
      have hls : LoopsOK Try.prog hint NT (ltab [(24, 26, LF 24 1 (oneF (ixV fs 0 0) [.var false (evC (nthD l ((i : Int)).toNat))] .ret (ixV fs (m : Int) (m : Int)) [.var false (evC (nthD l ((i : Int)).toNat))])), (14, 1018, LF 14 0 (oneF (thV 0 0 (fcT (nthD fs ((m : Int)).toNat)) (m : Int) (tk l (i : Int)) 0) [.var false (evC (nthD l ((i : Int)).toNat))] .ret (thV (j : Int) 0 (fcT (nthD fs ((m : Int)).toNat)) (m : Int) (tk l (i : Int)) (j : Int)) [.var false (evC (nthD l ((i : Int)).toNat))]))]) := by
        rw [hev, htk, hfc]
        refine ltab_cons (by kernel_rfl) (loopF_ok fun vs bx e vs' bx' hm => ?_) (ltab_cons (by kernel_rfl) (loopF_ok fun vs bx e vs' bx' hm => ?_) ltab_nil)
        · obtain ⟨rfl, rfl, rfl, rfl, rfl⟩ := oneF_mem hm
          exact Q
        · obtain ⟨rfl, rfl, rfl, rfl, rfl⟩ := oneF_mem hm
          exact R
      refine ⟨noGd_of rfl, tabT4, _, tabT4_ok, hls, 30, _, Wk.refl _, ?_⟩
      unfold gTa gTe
      rw [eT']
      refine (th_yes1 cS gS l fs i j m).trans (bif_step hb (bif_step (decide_eq_true c5) ?_))
      rw [hNi, q0]
      exact bif_step rfl (bif_stepF kb (bif_step (decide_eq_true c5) (bif_step rfl (bif_step sameS_t (bif_step c8 (bif_step (decide_eq_true c7) (bif_step c9 (bif_step (decide_eq_true c6) (bif_step sameS_t rfl)))))))))
end
end Go.Proofs.Ytgbddcdpbgaojaa
