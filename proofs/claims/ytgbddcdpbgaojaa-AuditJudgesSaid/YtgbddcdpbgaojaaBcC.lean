/- The document's Theft: the whole call. It bears no condition. -/
import Derived.Test.YtgbddcdpbgaojaaBcB
namespace Go.Proofs.Ytgbddcdpbgaojaa
open Go Go.Im
set_option linter.unusedVariables false
set_option linter.unusedSimpArgs false
set_option maxRecDepth 20000
noncomputable section

/-! ### Plain -/
theorem hit_eq (t : Ev) (fs : List IV) (e : Ev) : hit t fs e = stolen t (u8s ((faceTx t.host (fcs fs)).getD [])) (faceTx t.host (fcs fs)).isSome e := by
  unfold hit stolen
  by_cases k2 : e.kind = 2
  case neg =>
    have h1 : (e.kind != (2 : Int)) = true := bne_iff_ne.2 k2
    have h2 : (e.kind == (2 : Int)) = false := beq_eq_false_iff_ne.2 k2
    rw [h1, h2]; rfl
  by_cases kh : e.host = t.peer
  case neg =>
    have h1 : (e.host != t.peer) = true := bne_iff_ne.2 kh
    have h2 : (e.host == t.peer) = false := beq_eq_false_iff_ne.2 kh
    rw [h1, h2, k2]; rfl
  by_cases kp : e.peer = t.host
  case neg =>
    have h1 : (e.peer != t.host) = true := bne_iff_ne.2 kp
    have h2 : (e.peer == t.host) = false := beq_eq_false_iff_ne.2 kp
    rw [h1, h2, k2, kh]
    simp
  rw [k2, kh, kp]
  simp only [bne_self_eq_false, cond_false, beq_self_eq_true, cond_true]
  unfold gS
  by_cases hz : rdFc (u8s e.bytes) = 0
  · rw [hz]
    simp only [bne_self_eq_false, cond_false]
    unfold stB'
    congr 1
    funext v
    unfold hF stX gTx
    cases hv : v.a == (4 : Int)
    · rfl
    · simp only [Bool.true_and, cond_true]
      cases faceTx t.host (fcs fs) with
      | none => rfl
      | some x =>
        simp only [Option.getD_some, Option.isSome_some, cond_true, toBytes_u8s]
        congr 1
        rw [Bool.eq_iff_iff]
        simp only [beq_iff_eq]
        exact eq_comm
  · have h1 : (rdFc (u8s e.bytes) != 0) = true := bne_iff_ne.2 hz
    rw [h1]
    have h2 : (rdPk (u8s e.bytes)).xs = [] := by show xsOf _ = []; rw [rdPk_bad hz]; rfl
    rw [h2]; rfl
theorem theft_hit {es : List Ev} {told : Nat} {fs : List IV} {t : Ev} (ht : es[told]? = some t) (hk : t.kind = 3) : theft es (told : Int) (fcs fs) = match (es.take told).findIdx? (hit t fs) with
    | none => (0, 4)
    | some k => ((k : Int), 0) := by
  have hlt : told < es.length := (List.getElem?_eq_some_iff.1 ht).1
  unfold theft
  rw [if_neg (by omega), Int.toNat_natCast, ht]
  simp only
  rw [if_neg (fun h => h hk)]
  rw [show hit t fs = stolen t (u8s ((faceTx t.host (fcs fs)).getD [])) (faceTx t.host (fcs fs)).isSome from funext (hit_eq t fs)]
  rfl

/-! ### Rounds -/
theorem t6_round {l fs : List IV} (ha : l.all isEv = true) (hl : l.length ≤ 1000) (hs : (evs l).all shortE = true) (hf : (fs.all isFc && decide (fs.length ≤ 1000)) = true) {i T : Nat} (hi : i < T) (hT : T < l.length) {x p f k : IV} {bx : List Blk} (hsh : Sh x p f k bx) :
    ∃ ls, (LoopsOK Try.prog hint N6 ls ∧ ItemsOK Try.prog hint N6 (itOf Try.prog hint N6) (ls 16) (hint.kp 16) (2 * 58) (loopAt Try.prog 16 58)) ∧
      ((hit (evOf l[T]) fs (evOf l[i]) = false ∧ ∃ x' p' f' k' bx', Sh x' p' f' k' bx' ∧ Rl T6 ls 0 16 58 (Sx 16 (t6V l (T : Int) fs 0 0 (i : Int) x p f k) bx) = some (.normal, Sx 16 (t6V l (T : Int) fs 0 0 ((i + 1 : Nat) : Int) x' p' f' k') bx')) ∨
       (hit (evOf l[T]) fs (evOf l[i]) = true ∧ ∃ k1 h1 q1 a1 nl1 cl1 z1 b1 p1 f1' f2' j1, Rl T6 ls 0 16 58 (Sx 16 (t6V l (T : Int) fs 0 0 (i : Int) x p f k) bx) =
         some (.ret, Sx 16 (t6V l (T : Int) fs (i : Int) 0 (i : Int) (.ptr 0 0) (.ptr 1 0) (.ptr 2 0) (.int .i64 j1)) (t6B (evD k1 h1 q1 a1 nl1 cl1 z1 b1) p1 f1' f2')))) := by
  rcases hsh with ⟨rfl, rfl, rfl, rfl, rfl⟩ | ⟨k0, h0, q0, a0, nl0, cl0, z0, b00, rfl, rfl, rfl, rfl, rfl⟩ | ⟨k0, h0, q0, a0, nl0, cl0, z0, b00, p0, f1, f2, j0, rfl, rfl, rfl, rfl, rfl⟩
  · exact t6_roundA ha hl hs hf hi hT
  · exact t6_roundB ha hl hs hf hi hT
  · exact t6_roundC ha hl hs hf hi hT
theorem t6_last {l fs : List IV} {T : Nat} {x p f k : IV} {bx : List Blk} (hsh : Sh x p f k bx) : Rl T6 (ltab [(16, 29854, noL)]) 0 16 58 (Sx 16 (t6V l (T : Int) fs 0 0 (T : Int) x p f k) bx) = some (.exit 0, Sx 16 (t6V l (T : Int) fs 0 0 (T : Int) x p f k) bx) := by
  rcases hsh with ⟨rfl, rfl, rfl, rfl, rfl⟩ | ⟨k0, h0, q0, a0, nl0, cl0, z0, b00, rfl, rfl, rfl, rfl, rfl⟩ | ⟨k0, h0, q0, a0, nl0, cl0, z0, b00, p0, f1, f2, j0, rfl, rfl, rfl, rfl, rfl⟩
  · exact (t6_A0 rowB rdPk rdFa rdFc cTx gTx l fs T T).trans (bif_stepF (decide_eq_false (by omega)) rfl)
  · exact (t6_B0 rowB rdPk rdFa rdFc cTx gTx l fs T T k0 h0 q0 a0 nl0 cl0 z0 b00).trans (bif_stepF (decide_eq_false (by omega)) rfl)
  · exact (t6_C0 rowB rdPk rdFa rdFc cTx gTx l fs T T k0 h0 q0 a0 nl0 cl0 z0 b00 p0 f1 f2 j0).trans (bif_stepF (decide_eq_false (by omega)) rfl)
theorem t6_runs {l fs : List IV} (ha : l.all isEv = true) (hl : l.length ≤ 1000) (hs : (evs l).all shortE = true) (hf : (fs.all isFc && decide (fs.length ≤ 1000)) = true) {T : Nat} (hT : T < l.length) : ∀ (n i : Nat) (x p f k : IV) (bx : List Blk), i + n = T → Sh x p f k bx →
    ((((evs l).take T).drop i).findIdx? (hit (evOf l[T]) fs) = none ∧ ∃ x' p' f' k' bx', Sh x' p' f' k' bx' ∧ Runs Try.prog hint N6 0 (hint.kp 16) (loopAt Try.prog 16 58) (Sx 16 (t6V l (T : Int) fs 0 0 (i : Int) x p f k) bx) (.exit 0) (Sx 16 (t6V l (T : Int) fs 0 0 (T : Int) x' p' f' k') bx')) ∨
    ∃ j, (((evs l).take T).drop i).findIdx? (hit (evOf l[T]) fs) = some j ∧ ∃ k1 h1 q1 a1 nl1 cl1 z1 b1 p1 f1' f2' j1, Runs Try.prog hint N6 0 (hint.kp 16) (loopAt Try.prog 16 58) (Sx 16 (t6V l (T : Int) fs 0 0 (i : Int) x p f k) bx) .ret
      (Sx 16 (t6V l (T : Int) fs ((j + i : Nat) : Int) 0 ((j + i : Nat) : Int) (.ptr 0 0) (.ptr 1 0) (.ptr 2 0) (.int .i64 j1)) (t6B (evD k1 h1 q1 a1 nl1 cl1 z1 b1) p1 f1' f2'))
  | 0, i, x, p, f, k, bx, h, hsh => by
    obtain rfl : i = T := by omega
    refine .inl ⟨?_, x, p, f, k, bx, hsh, Runs.last no16_ok.1 no16_ok.2 (by simp) (t6_last hsh)⟩
    rw [show ((evs l).take i).drop i = [] by rw [List.drop_eq_nil_iff, List.length_take]; omega]
    rfl
  | n + 1, i, x, p, f, k, bx, h, hsh => by
    have hi : i < T := by omega
    have hlen : (evs l).length = l.length := List.length_map ..
    have e2 : ((evs l).take T).drop i = evOf (l[i]'(by omega)) :: ((evs l).take T).drop (i + 1) := by
      rw [List.drop_eq_getElem_cons (by rw [List.length_take]; omega)]
      simp [evs]
    rw [e2, List.findIdx?_cons]
    obtain ⟨ls, hok, h1⟩ := t6_round ha hl hs hf hi hT hsh
    rcases h1 with ⟨hh, x', p', f', k', bx', hsh', hr⟩ | ⟨hh, k1, h1, q1, a1, nl1, cl1, z1, b1, p1, f1', f2', j1, hr⟩
    · rw [hh]
      rcases t6_runs ha hl hs hf hT n (i + 1) x' p' f' k' bx' (by omega) hsh' with ⟨hfi, x2, p2, f2, k2, bx2, hs2, hrun⟩ | ⟨j, hfi, k1, h1, q1, a1, nl1, cl1, z1, b1, p1, f1', f2', j1, hrun⟩
      · refine .inl ⟨by rw [hfi]; rfl, x2, p2, f2, k2, bx2, hs2, Runs.step hok.1 hok.2 hr hrun⟩
      · refine .inr ⟨j + 1, by rw [hfi]; rfl, k1, h1, q1, a1, nl1, cl1, z1, b1, p1, f1', f2', j1, ?_⟩
        rw [show j + 1 + i = j + (i + 1) by omega]
        exact Runs.step hok.1 hok.2 hr hrun
    · rw [hh]
      refine .inr ⟨0, rfl, k1, h1, q1, a1, nl1, cl1, z1, b1, p1, f1', f2', j1, ?_⟩
      rw [Nat.zero_add]
      exact Runs.last hok.1 hok.2 (by simp) hr

/-! ### The whole call -/
theorem rtheft_known : Known Try.prog hint 16 (thP cT gTa gTe) := by
  refine known_alt fits fun us T v T1 h => ?_
  unfold thP at h
  split at h
  case h_2 => cases h
  rename_i nl0 cl0 l told nl1 cl1 fs
  simp only [List.mem_cons, List.not_mem_nil, or_false, Prod.mk.injEq, Bool.true_eq] at h
  obtain ⟨h1, rfl, rfl⟩ := h
  have hcT := h1
  unfold cT at h1
  simp only [Bool.and_eq_true, decide_eq_true_eq] at h1
  obtain ⟨⟨⟨ha, hl⟩, hs⟩, hf, hfl⟩ := h1
  refine ⟨[[.fsl none false 5 l, .int .i64 told, .fsl none false 2 fs]], by simp, Splits.wk (WkL.cons (Wk.fsl rfl (.inl rfl) (by simp) (.inl rfl)) (WkL.cons (Wk.refl _) (WkL.cons (Wk.fsl rfl (.inl rfl) (by simp) (.inl rfl)) WkL.nil))), fun ys hy => ?_⟩
  rw [List.mem_singleton] at hy
  subst hy
  have hlen : (evs l).length = l.length := List.length_map ..
  have hno : LoopsOK Try.prog hint N6 (ltab [(16, 58, noL)]) := ltab_cons (by kernel_rfl) (fun p s e s' h => by cases h) ltab_nil
  by_cases ht : told < 0 ∨ told ≥ (l.length : Int)
  · have e1 : theft (evs l) told (fcs fs) = (0, 1) := by unfold theft; rw [if_pos (by rw [hlen]; exact ht)]
    have hb : ((bif decide (told < (0 : Int)) then true else decide (told ≥ (l.length : Int))) == false) = false := by
      rcases ht with ht | ht
      · rw [decide_eq_true ht]; rfl
      · rw [decide_eq_true ht]; cases decide (told < (0 : Int)) <;> rfl
    refine ⟨noGd_of rfl, T6, ltab [(16, 58, noL)], T6_ok, hno, 30, _, Wk.refl _, ?_⟩
    unfold gTa gTe
    rw [e1]
    exact (t6_none rowB rdPk rdFa rdFc cTx gTx l fs told).trans (bif_stepF hb rfl)
  have ht1 : 0 ≤ told := by omega
  have ht2 : told < (l.length : Int) := by omega
  obtain ⟨T, rfl⟩ : ∃ T : Nat, told = T := ⟨told.toNat, by omega⟩
  have hT : T < l.length := by omega
  have hb : ((bif decide (((T : Nat) : Int) < (0 : Int)) then true else decide (((T : Nat) : Int) ≥ (l.length : Int))) == false) = true := by
    rw [decide_eq_false (by omega), decide_eq_false (by omega)]; rfl
  obtain ⟨nt, ct, hxt, _⟩ := isEv_iff (List.all_eq_true.1 ha _ (List.getElem_mem hT))
  have hNt := nthD_at hT
  rw [hxt] at hNt
  have hei : (evs l)[T]? = some (evOf l[T]) := by simp [evs, hT]
  have R := t6_runs ha hl hs (by rw [hf, decide_eq_true hfl]; rfl) hT T 0 .undef .undef .undef .undef [] (by omega) (.inl ⟨rfl, rfl, rfl, rfl, rfl⟩)
  rw [List.drop_zero] at R
  have hth := fun h3 => theft_hit (fs := fs) hei h3
  have hno3 : (evOf l[T]).kind ≠ 3 → theft (evs l) (T : Int) (fcs fs) = (0, 1) := fun h3 => by
    unfold theft
    rw [if_neg (by rw [hlen]; omega), Int.toNat_natCast, hei]
    simp only
    rw [if_pos h3]
  generalize evOf l[T] = t at *
  have q0 : Im.intOf (nthD (List.drop 0 (nthD l ((T : Int)).toNat).cells) 0) = t.kind := by rw [hNt]; exact Eq.trans rfl rfl
  have q1 : isOf (LT.i IntKind.i64) (nthD (List.drop 0 (nthD l ((T : Int)).toNat).cells) 0) = true := by rw [hNt]; exact Eq.trans rfl rfl
  have c5 : (5 : Nat) = 5 ∧ (0 : Int) ≤ (T : Int) ∧ (T : Int) < (l.length : Int) := ⟨rfl, by omega, by omega⟩
  by_cases k3 : t.kind = 3
  case neg =>
    refine ⟨noGd_of rfl, T6, ltab [(16, 58, noL)], T6_ok, hno, 30, _, Wk.refl _, ?_⟩
    unfold gTa gTe
    rw [hno3 k3]
    exact (t6_none rowB rdPk rdFa rdFc cTx gTx l fs T).trans (bif_step hb (bif_step (decide_eq_true c5) (bif_step q1 (bif_step (by rw [q0]; exact bne_iff_ne.2 k3) rfl))))
  have kb : (bif false then true else t.kind != (3 : Int)) = false := by rw [k3]; rfl
  rcases R with ⟨hfi, x, p, f, k, bx, hsh, hrun⟩ | ⟨j, hfi, k1, h1, q1', a1, nl1, cl1, z1, b1, p1, f1', f2', j1, hrun⟩
  · have e1 : theft (evs l) (T : Int) (fcs fs) = (0, 4) := by rw [hth k3, hfi]
    have hls : LoopsOK Try.prog hint N6 (ltab [(16, 58, LF 16 0 (oneF (t6V l (T : Int) fs 0 0 0 .undef .undef .undef .undef) [] (.exit 0) (t6V l (T : Int) fs 0 0 (T : Int) x p f k) bx))]) := by
      refine ltab_cons (by kernel_rfl) (loopF_ok fun vs bx e vs' bx' hm => ?_) ltab_nil
      obtain ⟨rfl, rfl, rfl, rfl, rfl⟩ := oneF_mem hm
      exact hrun
    refine ⟨noGd_of rfl, T6, _, T6_ok, hls, 30, _, Wk.refl _, ?_⟩
    unfold gTa gTe
    rw [e1]
    rcases hsh with ⟨rfl, rfl, rfl, rfl, rfl⟩ | ⟨k0, h0, q0', a0, nl0, cl0, z0, b00, rfl, rfl, rfl, rfl, rfl⟩ | ⟨k0, h0, q0', a0, nl0, cl0, z0, b00, p0, f1, f2, j0, rfl, rfl, rfl, rfl, rfl⟩
    · exact (t6_callA rowB rdPk rdFa rdFc cTx gTx l fs T T).trans (bif_step hb (bif_step (decide_eq_true c5) (bif_step q1 (bif_stepF (by rw [q0]; exact kb) (bif_step sameS_t rfl)))))
    · exact (t6_callB rowB rdPk rdFa rdFc cTx gTx l fs T T k0 h0 q0' a0 nl0 cl0 z0 b00).trans (bif_step hb (bif_step (decide_eq_true c5) (bif_step q1 (bif_stepF (by rw [q0]; exact kb) (bif_step sameS_t rfl)))))
    · exact (t6_callC rowB rdPk rdFa rdFc cTx gTx l fs T T k0 h0 q0' a0 nl0 cl0 z0 b00 p0 f1 f2 j0).trans (bif_step hb (bif_step (decide_eq_true c5) (bif_step q1 (bif_stepF (by rw [q0]; exact kb) (bif_step sameS_t rfl)))))
  · have e1 : theft (evs l) (T : Int) (fcs fs) = ((j : Int), 0) := by rw [hth k3, hfi]
    rw [Nat.add_zero] at hrun
    have hls : LoopsOK Try.prog hint N6 (ltab [(16, 58, LF 16 0 (oneF (t6V l (T : Int) fs 0 0 0 .undef .undef .undef .undef) [] .ret (t6V l (T : Int) fs (j : Int) 0 (j : Int) (.ptr 0 0) (.ptr 1 0) (.ptr 2 0) (.int .i64 j1)) (t6B (evD k1 h1 q1' a1 nl1 cl1 z1 b1) p1 f1' f2')))]) := by
      refine ltab_cons (by kernel_rfl) (loopF_ok fun vs bx e vs' bx' hm => ?_) ltab_nil
      obtain ⟨rfl, rfl, rfl, rfl, rfl⟩ := oneF_mem hm
      exact hrun
    refine ⟨noGd_of rfl, T6, _, T6_ok, hls, 30, _, Wk.refl _, ?_⟩
    unfold gTa gTe
    rw [e1]
    exact (t6_ret rowB rdPk rdFa rdFc cTx gTx l fs T j k1 h1 q1' a1 nl1 cl1 z1 b1 p1 f1' f2' j1).trans (bif_step hb (bif_step (decide_eq_true c5) (bif_step q1 (bif_stepF (by rw [q0]; exact kb) (bif_step sameS_t rfl)))))
end
end Go.Proofs.Ytgbddcdpbgaojaa
