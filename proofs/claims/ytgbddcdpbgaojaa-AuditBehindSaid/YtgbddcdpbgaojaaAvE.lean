/- AuditAll at all arguments. It bears no condition. -/
import Derived.Test.YtgbddcdpbgaojaaAvD
namespace Go.Proofs.Ytgbddcdpbgaojaa
open Go Go.Im
set_option linter.unusedVariables false
set_option linter.unusedSimpArgs false
noncomputable section

theorem al_runs {l : List IV} (ha : l.all isEv = true) (hl : l.length ≤ 1000) {nl nl' : Option Bool} {cl cl' : Bool} {zs : List Int} : ∀ (k i n : Nat) (d : IV), i + k = l.length → n ≤ zs.length → Lst d → Giv (evs l) i (zs.take n) →
    (∃ n' d', Lst d' ∧ n' ≤ zs.length ∧ Giv (evs l) l.length (zs.take n') ∧ Runs Try.prog hint NA 0 (hint.kp 8) (loopAt Try.prog 8 122) (Sx 8 (alV nl cl l nl' cl' (I64 zs) false (n : Int) (i : Int) d) []) (.exit 0) (Sx 8 (alV nl cl l nl' cl' (I64 zs) false ((n' : Nat) : Int) (l.length : Int) d') [])) ∨
    ∃ n' i' d', Lst d' ∧ Runs Try.prog hint NA 0 (hint.kp 8) (loopAt Try.prog 8 122) (Sx 8 (alV nl cl l nl' cl' (I64 zs) false (n : Int) (i : Int) d) []) .ret (Sx 8 (alV nl cl l nl' cl' (I64 zs) true n' i' d') []) := by
  intro k
  induction k with
  | zero =>
    intro i n d hi hn hd hG
    have : i = l.length := by omega
    subst this
    refine .inl ⟨n, d, hd, hn, hG, ?_⟩
    rcases hd with rfl | ⟨d, rfl⟩
    · exact Runs.last no8_ok.1 no8_ok.2 (by simp) ((al_n0 cE gLong cO gO cM gP cA gA cO gT nl cl l nl' cl' (I64 zs) n l.length).trans (bif_stepF (decide_eq_false (by omega)) rfl))
    · exact Runs.last no8_ok.1 no8_ok.2 (by simp) ((al_n1 cE gLong cO gO cM gP cA gA cO gT nl cl l nl' cl' (I64 zs) n l.length d).trans (bif_stepF (decide_eq_false (by omega)) rfl))
  | succ k ih =>
    intro i n d hi hn hd hG
    have hs : AStep nl cl l nl' cl' zs n i (Sx 8 (alV nl cl l nl' cl' (I64 zs) false (n : Int) (i : Int) d) []) := by
      rcases hd with rfl | ⟨d, rfl⟩
      · exact al_round0 ha hl hn (by omega) hG
      · exact al_round1 ha hl hn (by omega) hG
    obtain ⟨ls, hok, ⟨n', d', hd', hn', hG', hr⟩ | ⟨n', i', d', hd', hr⟩⟩ := hs
    · rcases ih (i + 1) n' d' (by omega) hn' hd' hG' with ⟨n2, d2, h1, h2, h3, h4⟩ | ⟨n2, i2, d2, h1, h2⟩
      · exact .inl ⟨n2, d2, h1, h2, h3, Runs.step hok.1 hok.2 hr h4⟩
      · exact .inr ⟨n2, i2, d2, h1, Runs.step hok.1 hok.2 hr h2⟩
    · exact .inr ⟨n', i', d', hd', Runs.last hok.1 hok.2 (by simp) hr⟩
theorem cells3 : Try.prog.cellsOf 3 = 1 := by kernel_rfl
theorem arg30 {x : IV} (h : ArgT Try.prog 30 x) : ∃ nl cl zs, x = .fsl nl cl 1 (I64 zs) := by
  obtain ⟨n, l, h1, h2, _⟩ := h
  obtain ⟨m, nl, cl, es, rfl, rfl, _, e1, e2, e3⟩ := ty_slice Try.underlying30 h1
  have hx : x = .fsl (some nl) cl (Try.prog.cellsOf 3) es := by
    simp only [pack, isAggT, Try.underlying30, Option.map_some] at h2
    exact (Option.some.inj h2).symm
  rw [cells3] at hx
  have he : ∀ {es : List IV}, (∀ y ∈ es, ∃ i, y = .int .i64 i) → es = I64 (es.map Im.intOf) := by
    intro es
    induction es with
    | nil => intro _; rfl
    | cons y ys ih =>
      intro h
      obtain ⟨i, rfl⟩ := h y (List.mem_cons_self ..)
      have := ih fun z hz => h z (List.mem_cons_of_mem _ hz)
      show _ :: ys = _ :: I64 (ys.map Im.intOf)
      rw [← this]; rfl
  have hes := he (es := es) fun y hy => by
    obtain ⟨cs, hq, _, ht⟩ := e3 y hy
    obtain ⟨i, rfl, _⟩ := ty_int Try.underlying3 ht
    refine ⟨i, ?_⟩
    simp only [pack, isAggT, Try.underlying3, Option.map_some] at hq
    exact (Option.some.inj hq).symm
  exact ⟨some nl, cl, es.map Im.intOf, by rw [← hes]; exact hx⟩
theorem auditAll_run (xs : List IV) (hl : xs.length = Try.f8.params.size) (h : ∀ (i : Nat) t, Try.f8.params[i]? = some t → ∃ x, xs[i]? = some x ∧ ArgT Try.prog t x) :
    ∃ k, acall Try.prog hint (ovrOf tabA') k 8 xs [] = some (.bool true, []) := by
  rw [Try.params8] at hl h
  obtain ⟨x0, g0, a0⟩ := h 0 22 rfl
  obtain ⟨x1, g1, a1⟩ := h 1 30 rfl
  match xs, hl with
  | [y0, y1], _ =>
    simp only [List.getElem?_cons_zero, List.getElem?_cons_succ, Option.some.injEq] at g0 g1
    subst g0 g1
    obtain ⟨nl, cl, l, rfl, ha, hll⟩ := arg22 a0
    obtain ⟨nl', cl', zs, rfl⟩ := arg30 a1
    cases hlong : gLong l
    case true => exact law_run (ls := ltab [(8, 122, noL)]) (n := 30) (ltab_cons (by kernel_rfl) (fun p s e s' h => by cases h) ltab_nil) ((al_long cE gLong cO gO cM gP cA gA cO gT nl cl l nl' cl' (I64 zs)).trans (bif_step ha (bif_step hlong rfl)))
    case false =>
      have hlen := long_len hlong
      rw [List.length_map] at hlen
      have hlo : ∀ (e : Ex) (vs : List IV), Runs Try.prog hint NA 0 (hint.kp 8) (loopAt Try.prog 8 122) (Sx 8 (alV nl cl l nl' cl' (I64 zs) false 0 0 .undef) []) e (Sx 8 vs []) → LoopsOK Try.prog hint NA (ltab [(8, 122, LF 8 0 (oneF (alV nl cl l nl' cl' (I64 zs) false 0 0 .undef) [] e vs []))]) := by
        intro e vs hrun
        refine ltab_cons (by kernel_rfl) (loopF_ok fun vs bx e vs' bx' hm => ?_) ltab_nil
        obtain ⟨rfl, rfl, rfl, rfl, rfl⟩ := oneF_mem hm
        exact hrun
      rcases al_runs ha (by omega) (nl := nl) (nl' := nl') (cl := cl) (cl' := cl') (zs := zs) l.length 0 0 .undef (by omega) (by omega) (.inl rfl) (giv_start _) with ⟨n, d, hd, hn, hG, hrun⟩ | ⟨n, i, d, hd, hrun⟩
      · have hel : l.length = (evs l).length := (List.length_map ..).symm
        have hG' : Giv (evs l) (evs l).length (zs.take n) := by rw [← hel]; exact hG
        obtain ⟨hall, hcnt⟩ := giv_all hG'
        have hP : gP (gO l) = true := by
          unfold gP gO
          rw [show evs ((evs l).map evF) = evs l from evs_F _]
          have : pxB (mat (evs l)) = false := by
            unfold pxB
            rw [List.any_eq_false]
            intro m hm
            have := hall m hm
            simpa using this
          rw [this]; rfl
        have hT : gT l = ((n : Nat) : Int) := by
          unfold gT
          rw [hcnt, List.length_take, Nat.min_eq_left hn]
        rcases hd with rfl | ⟨d, rfl⟩
        · refine law_run (hlo _ _ hrun) (n := 30) ((al_call0 cE gLong cO gO cM gP cA gA cO gT nl cl l nl' cl' (I64 zs) n l.length).trans (bif_step ha (bif_stepF hlong (bif_step sameS_t (bif_step (cO_of ha (by omega)) (bif_step (cM_O ha (by omega)) (bif_step ?_ (bif_step (cO_of ha (by omega)) ?_))))))))
          · rw [hP]; rfl
          · rw [hT]; simp
        · refine law_run (hlo _ _ hrun) (n := 30) ((al_call1 cE gLong cO gO cM gP cA gA cO gT nl cl l nl' cl' (I64 zs) n l.length d).trans (bif_step ha (bif_stepF hlong (bif_step sameS_t (bif_step (cO_of ha (by omega)) (bif_step (cM_O ha (by omega)) (bif_step ?_ (bif_step (cO_of ha (by omega)) ?_))))))))
          · rw [hP]; rfl
          · rw [hT]; simp
      · rcases hd with rfl | ⟨d, rfl⟩
        · exact law_run (hlo _ _ hrun) (n := 30) ((al_ret0 cE gLong cO gO cM gP cA gA cO gT nl cl l nl' cl' (I64 zs) n i).trans (bif_step ha (bif_stepF hlong (bif_step sameS_t rfl))))
        · exact law_run (hlo _ _ hrun) (n := 30) ((al_ret1 cE gLong cO gO cM gP cA gA cO gT nl cl l nl' cl' (I64 zs) n i d).trans (bif_step ha (bif_stepF hlong (bif_step sameS_t rfl))))
end
end Go.Proofs.Ytgbddcdpbgaojaa
