/- The law that each packet has just its bytes: what is proved of the given program. It bears no condition. -/
import Derived.Test.YtphddjolipaejaaWiM
namespace Go.Proofs.Ytphddjolipaejaa
open Go Go.Im
set_option linter.unusedVariables false
set_option linter.unusedSimpArgs false
noncomputable section

/-! ### Arguments -/
theorem cells5 : Try.prog.cellsOf 5 = 1 := by kernel_rfl
theorem bytes5 : Try.prog.bytesOf 5 = 1 := by kernel_rfl
theorem cells47 : Try.prog.cellsOf 47 = 8 := by kernel_rfl
theorem bytes47 : Try.prog.bytesOf 47 = 80 := by kernel_rfl
theorem cells29 : Try.prog.cellsOf 29 = 17 := by kernel_rfl
theorem ty25 {n : Nat} {l : List IV} (h : Ty Try.prog n 25 l) : ∃ nl cl xs, l = [.fsl (some nl) cl 1 xs] ∧ (nl = true → xs = [] ∧ cl = true) ∧ okB xs = true ∧ xs.length ≤ 140737488351232 := ty_bytes Try.underlying25 Try.underlying5 cells5 bytes5 h
theorem ty47 {n : Nat} {l : List IV} (h : Ty Try.prog n 47 l) : ∃ v : XV, l = v.cells ∧ v.ok = true := by
  obtain ⟨m, _, h⟩ := ty_struct Try.underlying47 h
  simp only [FieldsT] at h
  obtain ⟨c1, r1, rfl, h1, c2, r2, rfl, h2, c3, r3, rfl, h3, c4, r4, rfl, h4, c5, r5, rfl, h5, c6, r6, rfl, h6, c7, r7, rfl, h7, c8, r8, rfl, h8, rfl⟩ := h
  obtain ⟨a, rfl, _⟩ := ty_int Try.underlying3 h1
  obtain ⟨b, rfl⟩ := ty_bool Try.underlying4 h2
  obtain ⟨c, rfl⟩ := ty_bool Try.underlying4 h3
  obtain ⟨d, rfl, _⟩ := ty_int Try.underlying3 h4
  obtain ⟨ts, rfl, _⟩ := ty_int Try.underlying22 h5
  obtain ⟨fs, rfl, _⟩ := ty_int Try.underlying22 h6
  obtain ⟨n1, k1, x1, rfl, _, o1, l1⟩ := ty25 h7
  obtain ⟨n2, k2, x2, rfl, _, o2, l2⟩ := ty25 h8
  refine ⟨⟨a, b, c, d, ts, fs, some n1, k1, 1, x1, some n2, k2, 1, x2⟩, rfl, ok_iff.2 ⟨⟨.inl rfl, .inl rfl, ?_, ?_⟩, o1, o2⟩⟩
  · show x1.length ≤ _; omega
  · show x2.length ≤ _; omega
theorem arg29 {x : IV} (h : ArgT Try.prog 29 x) : ∃ p : PK, x = p.iv ∧ p.ok = true := by
  obtain ⟨n, l, h, hp, _⟩ := h
  obtain ⟨m, _, h⟩ := ty_struct Try.underlying29 h
  simp only [FieldsT] at h
  obtain ⟨c1, r1, rfl, h1, c2, r2, rfl, h2, c3, r3, rfl, h3, c4, r4, rfl, h4, c5, r5, rfl, h5, c6, r6, rfl, h6, c7, r7, rfl, h7, c8, r8, rfl, h8, c9, r9, rfl, h9, c10, r10, rfl, h10, c11, r11, rfl, h11, c12, r12, rfl, h12, c13, r13, rfl, h13, c14, r14, rfl, h14, c15, r15, rfl, h15, rfl⟩ := h
  obtain ⟨le, rfl, _⟩ := ty_int Try.underlying3 h1
  obtain ⟨ve, rfl, _⟩ := ty_int Try.underlying3 h2
  obtain ⟨mo, rfl, _⟩ := ty_int Try.underlying3 h3
  obtain ⟨st, rfl, _⟩ := ty_int Try.underlying3 h4
  obtain ⟨po, rfl, _⟩ := ty_int Try.underlying3 h5
  obtain ⟨pr, rfl, _⟩ := ty_int Try.underlying3 h6
  obtain ⟨de, rfl, _⟩ := ty_int Try.underlying22 h7
  obtain ⟨di, rfl, _⟩ := ty_int Try.underlying22 h8
  obtain ⟨ri, rfl, _⟩ := ty_int Try.underlying22 h9
  obtain ⟨rf, rfl, _⟩ := ty_int Try.underlying23 h10
  obtain ⟨og, rfl, _⟩ := ty_int Try.underlying23 h11
  obtain ⟨rc, rfl, _⟩ := ty_int Try.underlying23 h12
  obtain ⟨xm, rfl, _⟩ := ty_int Try.underlying23 h13
  obtain ⟨k, nl, cl, es, _, rfl, _, e2, e3, e4⟩ := ty_slice Try.underlying24 h14
  obtain ⟨j, _, h15⟩ := ty_struct Try.underlying27 h15
  simp only [FieldsT] at h15
  obtain ⟨d1, s1, rfl, g1, d2, s2, rfl, g2, d3, s3, rfl, g3, rfl⟩ := h15
  obtain ⟨ha, rfl⟩ := ty_bool Try.underlying4 g1
  obtain ⟨ky, rfl, _⟩ := ty_int Try.underlying22 g2
  obtain ⟨n2, k2, x2, rfl, _, o2, l2⟩ := ty25 g3
  rw [bytes47, reach_val] at e2
  rw [cells47] at hp
  refine ⟨⟨le, ve, mo, st, po, pr, de, di, ri, rf, og, rc, xm, some nl, cl, 8, es, ha, ky, some n2, k2, 1, x2⟩, pack_struct Try.underlying29 hp cells29.symm, pok_iff.2 ⟨⟨.inl rfl, .inl rfl, ?_, ?_⟩, o2, ?_⟩⟩
  · show es.length ≤ _; omega
  · show x2.length ≤ _; omega
  · rw [List.all_eq_true]
    intro x hx
    obtain ⟨cs, hq, _, ht⟩ := e4 x hx
    obtain ⟨v, rfl, hv⟩ := ty47 ht
    rw [pack_struct Try.underlying47 hq cells47.symm]
    exact hv

/-! ### A packet's copy -/
abbrev cpy (p : PK) : PK := cpPK cpES PK.su p
theorem cpy_xs (p : PK) : (cpy p).xs = p.xs.map cpX := xs_iv _
theorem cpy_ok {p : PK} (h : p.fine = true) : (cpy p).ok = true := by
  obtain ⟨h1, h2, h3, h4⟩ := fine_iff h
  have hk := pok_iff.1 h1
  have hl := p.xs_len
  refine pok_iff.2 ⟨⟨.inl rfl, .inl rfl, ?_, ?_⟩, hk.2.1, ?_⟩
  · show (cpES p).length ≤ _
    simp only [cpES, List.length_map]; omega
  · show p.su.length ≤ _; omega
  · show (cpES p).all isX = true
    rw [List.all_eq_true]
    intro x hx
    simp only [cpES, List.mem_map] at hx
    obtain ⟨w, ⟨v, hv, rfl⟩, rfl⟩ := hx
    rw [isX_iv]
    have ho := ok_iff.1 ((pk_es h1).2 v hv)
    exact ok_iff.2 ⟨⟨.inl rfl, .inl rfl, ho.1.2.2.1, ho.1.2.2.2⟩, ho.2⟩
theorem wts_map (vs : List XV) : wts (vs.map cpX) = wts vs := by
  induction vs with
  | nil => rfl
  | cons v vs ih => rw [List.map_cons, wts_cons, wts_cons, ih]; rfl
theorem sizes_map (vs : List XV) : sizes (vs.map cpX) = sizes vs := by
  induction vs with
  | nil => rfl
  | cons v vs ih => rw [List.map_cons, sizes_cons, sizes_cons, ih]; rfl
theorem fieldsL_map (vs : List XV) : fieldsL (vs.map cpX) = fieldsL vs := by
  induction vs with
  | nil => rfl
  | cons v vs ih => simp only [fieldsL, List.map_cons, List.flatMap_cons] at ih ⊢; rw [ih]; rfl
theorem cpy_len (p : PK) : (cpy p).es.length = p.es.length := by
  show (cpES p).length = _
  simp only [cpES, List.length_map, PK.xs_len]
theorem cpy_fine {p : PK} (h : p.fine = true) : (cpy p).fine = true := by
  have h2 : (cpy p).heavy = p.heavy := by
    unfold PK.heavy
    rw [cpy_xs, wts_map, cpy_len]; rfl
  simp only [PK.fine, Bool.and_eq_true, Bool.not_eq_true'] at h ⊢
  exact ⟨cpy_ok (by simp [PK.fine, h]), h2.trans h.2⟩
theorem cpy_right (p : PK) : (cpy p).right = p.right := by
  have e1 : (cpy p).headOK = p.headOK := by
    unfold PK.headOK
    rw [cpy_len]; rfl
  have e2 : (cpy p).xs.all goodX = p.xs.all goodX := by
    rw [cpy_xs, List.all_map]; rfl
  have e3 : (cpy p).tot = p.tot := by
    unfold PK.tot
    rw [cpy_xs, sizes_map]; rfl
  unfold PK.right
  rw [e1, e2, e3]; rfl
theorem cpy_write (p : PK) : writeL (cpy p) = writeL p := by
  unfold writeL
  rw [cpy_xs, fieldsL_map]; rfl
theorem sameX_cp (v : XV) : sameX (cpX v) v = true := by simp [sameX, cpX]
theorem allSame_map (vs : List XV) : allSame ((vs.map cpX).zip vs) = true := by
  induction vs with
  | nil => rfl
  | cons v vs ih =>
    simp only [allSame, List.map_cons, List.zip_cons_cons, List.all_cons] at ih ⊢
    rw [ih, sameX_cp]; rfl
theorem cpy_same (p : PK) : (cpy p).same p = true := by
  have e1 : (cpy p).headEq p = true := by
    refine decide_eq_true ⟨rfl, rfl, rfl, rfl, rfl, rfl, rfl, rfl, rfl, rfl, rfl, rfl, rfl, cpy_len p⟩
  have e2 : allSame ((cpy p).xs.zip p.xs) = true := by rw [cpy_xs]; exact allSame_map _
  unfold PK.same
  rw [e1, e2]
  simp [cpPK]
theorem isBytes_app {a b : List IV} (ha : isBytes a = true) (hb : isBytes b = true) : isBytes (a ++ b) = true := by
  induction a with
  | nil => exact hb
  | cons x a ih =>
    unfold isBytes at ha
    split at ha
    · rename_i heq
      cases heq
    · rename_i heq
      cases heq
      simpa [isBytes] using ih ha
    · cases ha
theorem isBytes_data {l : List IV} (h : okB l = true) : isBytes (dataL l) = true := by
  refine isBytes_app (isBytes_app (isBytes_u8s _) (isBytes_ok h)) ?_
  have : ∀ n, isBytes (List.replicate n (IV.int .u8 0)) = true := by
    intro n
    induction n with
    | zero => rfl
    | succ n ih => simpa [List.replicate_succ, isBytes] using ih
  exact this _
theorem isBytes_field {v : XV} (h : v.ok = true) : isBytes (fieldL v) = true := by
  have := ok_iff.1 h
  exact isBytes_app (isBytes_app (isBytes_app (isBytes_app (isBytes_app (isBytes_app (isBytes_app rfl (isBytes_u8s _)) (isBytes_u8s _)) rfl) (isBytes_u8s _)) (isBytes_u8s _)) (isBytes_data this.2.1)) (isBytes_data this.2.2)
theorem isBytes_fields : ∀ {vs : List XV}, (∀ v ∈ vs, v.ok = true) → isBytes (fieldsL vs) = true
  | [], _ => rfl
  | v :: vs, h => by
    simp only [fieldsL, List.flatMap_cons]
    exact isBytes_app (isBytes_field (h v List.mem_cons_self)) (isBytes_fields fun w hw => h w (List.mem_cons_of_mem _ hw))
theorem isBytes_write {p : PK} (h : p.ok = true) : isBytes (writeL p) = true := by
  refine isBytes_app (isBytes_app ?_ (isBytes_fields (pk_es h).2)) ?_
  · exact isBytes_app (isBytes_app (isBytes_app (isBytes_app (isBytes_app (isBytes_app (isBytes_app rfl (isBytes_u8s _)) (isBytes_u8s _)) (isBytes_u8s _)) (isBytes_u8s _)) (isBytes_u8s _)) (isBytes_u8s _)) (isBytes_u8s _)
  · unfold macsL
    cases p.ha
    · rfl
    · exact isBytes_app (isBytes_u8s _) (isBytes_ok (pok_iff.1 h).2.1)

/-! ### What must come of fixed calls -/
theorem clone_known : Known Try.prog hint 28 (cloneP cloneC) := by
  refine known_frz fits ?_
  intro xs T v T1 h
  unfold cloneP at h
  split at h
  · rename_i nl cl z l
    simp only [List.mem_cons, List.not_mem_nil, or_false, Prod.mk.injEq, Bool.true_eq, cloneC, decide_eq_true_eq] at h
    obtain ⟨⟨h1, h2⟩, rfl, rfl⟩ := h
    have hr : ∀ ys ∈ [[IV.fsl (some false) cl z l]], ∃ n v0 T2 v1 fr, callK Try.prog hint (tab []) (fun _ _ => none) n 28 ys [] (fun v T => some (v, T)) = some (v0, T2) ∧ frz T2 v0 = some (v1, fr) ∧ Wk v1 (.fsl none false 1 l) := by
      intro ys hy
      rw [List.mem_singleton] at hy
      subst hy
      refine ⟨30, .osl 0 0, [.row 0 false 1 l], .fsl none false 1 l, [0], (cl2 cl z l).trans ?_, rfl, ?_⟩
      · exact bif_step (decide_eq_true h1) (bif_step (decide_eq_true (by (simp only [List.length_append, List.length_cons, List.length_nil, List.length_replicate, List.length_map, u8s_len, be_len, roomB_nat, roomB_val, maxLen_val, Nat.mul_one] at *); omega)) rfl)
      · exact Wk.fsl (by rfl) (.inl rfl) (by simp) (.inl rfl)
    refine ⟨rfl, rfl, _, ?_, Splits.nil1, ?_⟩
    · split <;> simp
    intro ys hy
    split at hy
    · rename_i hl
      subst hl
      rcases List.mem_cons.1 hy with rfl | hy
      · refine ⟨noGd_of rfl, tab [], fun _ _ => none, tab_nil, loops_none, 30, .fsl (some true) true 0 [], [], .fsl (some true) true 0 [], [], (cl1 cl z).trans rfl, rfl, ?_⟩
        exact Wk.fsl rfl (.inl rfl) (by simp) (.inr rfl)
      · obtain ⟨n, v0, T2, v1, fr, q⟩ := hr ys hy
        rw [List.mem_singleton] at hy
        subst hy
        exact ⟨noGd_of rfl, tab [], fun _ _ => none, tab_nil, loops_none, n, v0, T2, v1, fr, q⟩
    · obtain ⟨n, v0, T2, v1, fr, q⟩ := hr ys hy
      rw [List.mem_singleton] at hy
      subst hy
      exact ⟨noGd_of rfl, tab [], fun _ _ => none, tab_nil, loops_none, n, v0, T2, v1, fr, q⟩
  · cases h
theorem alive_known : Known Try.prog hint 8 (constF (.bool true)) := known_const fits (spec := tab [(28, cloneP cloneC)]) (tab_cons clone_known tab_nil) (k := 90) (by kernel_rfl)

/-! ### The law -/
noncomputable abbrev tabL : FuncId → Option SpecF := lawTab PK.ok PK.heavy PK.fine cpES PK.su (fun p => p.fine && p.right) (fun p => p.fine && !p.right) writeL PK.fine rightG (fun p q => p.ok && q.ok) PK.same
theorem tabL_ok : ∀ f F, tabL f = some F → Known Try.prog hint f F := tab_cons hv_known (tab_cons alive_known (tab_cons copy_known (tab_cons write_known (tab_cons rwrite_known (tab_cons right_known (tab_cons rright_known (tab_cons same_known tab_nil)))))))
theorem writes_true (p : PK) (hp : p.ok = true) : Cb tabL (fun _ _ => none) 3 [p.iv] [] = some (.bool true, []) := by
  refine (writes_all p ..).trans ?_
  refine bif_step hp ?_
  cases hh : p.heavy
  · have hf : p.fine = true := by simp [PK.fine, hp, hh]
    have hq := cpy_fine hf
    have hqo := cpy_ok hf
    refine bif_stepF rfl (bif_step hf ?_)
    have es : (cpy p).same p = true := cpy_same p
    have eo : ((cpy p).ok && p.ok) = true := by rw [hqo, hp]; rfl
    have eg : rightG (cpy p) = rightG p := by unfold rightG; rw [cpy_right]
    cases hr : p.right
    · have h1 : ((cpy p).fine && (cpy p).right) = false := by rw [cpy_right, hr]; simp
      have h2 : ((cpy p).fine && !(cpy p).right) = true := by rw [cpy_right, hr, hq]; rfl
      refine bif_stepF h1 (bif_step h2 (bif_stepF (by rw [hf]; rfl) (bif_step (by rw [hf]; rfl) (bif_step hq (bif_step hf (bif_step ?_ (bif_step eo ?_)))))))
      · rw [eg]; simp
      · rw [es]; rfl
    · have h1 : ((cpy p).fine && (cpy p).right) = true := by rw [cpy_right, hr, hq]; rfl
      have hb := isBytes_write hp
      have ew : writeL (cpy p) = writeL p := cpy_write p
      refine bif_step h1 (bif_step (by rw [hf]; rfl) (bif_step hq (bif_step hf (bif_step ?_ (bif_step ?_ (bif_step ?_ (bif_step eo ?_)))))))
      · rw [ew, hb]; simp
      · rw [hb]; simp
      · rw [ew, eg]; simp
      · rw [es]; rfl
  · exact bif_step rfl rfl
theorem wireWrites_run (xs : List IV) (hl : xs.length = Try.f3.params.size) (h : ∀ (i : Nat) t, Try.f3.params[i]? = some t → ∃ x, xs[i]? = some x ∧ ArgT Try.prog t x) :
    ∃ k, acall Try.prog hint (ovrOf tabL) k 3 xs [] = some (.bool true, []) := by
  rw [Try.params3] at hl h
  obtain ⟨x0, g0, a0⟩ := h 0 29 rfl
  match xs, hl with
  | [y0], _ =>
    simp only [List.getElem?_cons_zero, Option.some.injEq] at g0
    subst g0
    obtain ⟨p, rfl, hp⟩ := arg29 a0
    exact law_run loops_none (writes_true p hp)
end
end Go.Proofs.Ytphddjolipaejaa
