/- ChooseEnds: what is proved of the given program. It bears no condition. -/
import Derived.Test.YtfcedalbamafiaaCiH
namespace Go.Proofs.Ytfcedalbamafiaa
open Go Go.Im
set_option linter.unusedVariables false
set_option linter.unusedSimpArgs false
noncomputable section

def enStep (a b : Int) (x : Bool × Bool) (s : Sp) : Bool × Bool := (x.1 || s.lo == a, x.2 || s.hi == b)
theorem en_fold (a b : Int) : ∀ (ss : List Sp) (x : Bool × Bool), ss.foldl (enStep a b) x = (x.1 || ss.any (fun s => s.lo == a), x.2 || ss.any fun s => s.hi == b)
  | [], x => by simp
  | s :: ss, x => by rw [List.foldl_cons, en_fold a b ss]; simp [enStep, Bool.or_assoc]
theorem lo_at (s : Sp) : nthD (List.drop 0 (spI s).cells) 0 = .int .i64 s.lo := Eq.trans rfl rfl
theorem hi_at (s : Sp) : nthD (List.drop 2 (spI s).cells) 0 = .int .i64 s.hi := Eq.trans rfl rfl
theorem en_runs {nl : Option Bool} {cl : Bool} {ss : List Sp} {a b : Int} (hs : ss.length ≤ 1000) :
    EachOK Try.prog hint (acall Try.prog hint (ovrOf tabJ')) 0 (hint.kp 4) (loopAt Try.prog 4 506) (Sx 4 (enV nl cl (ss.map spI) a b false false ((0 : Nat) : Int)) []) (.exit 0)
      (fun x : Bool × Bool => Sx 4 (enV nl cl (ss.map spI) a b x.1 x.2 (ss.length : Int)) []) (foldE (fun (_ : Nat) x s => (Sum.inl (enStep a b x s) : (Bool × Bool) ⊕ (Ex × St))) 0 (false, false) ss) := by
  refine runs_each (X := Bool × Bool) (l := ss) (n := 30) (ls := fun _ _ => none) loops_none inner0 (fun i x => Sx 4 (enV nl cl (ss.map spI) a b x.1 x.2 (i : Int)) []) _
    (fun _ _ => True) (by simp) ?_ ?_ ss.length 0 (false, false) (by omega) trivial
  · rintro i ⟨lw, hg⟩ hi' _
    have ht := en_in tabJ' nl cl (ss.map spI) a b i lw hg
    rw [nth_sp hi', lo_at, hi_at, List.length_map, wadd1 (by omega)] at ht
    refine .inl ⟨_, rfl, ?_, trivial⟩
    have hd : (3 : Nat) = 3 ∧ (0 : Int) ≤ (i : Int) ∧ (i : Int) < (ss.length : Int) := ⟨rfl, by omega, by omega⟩
    replace ht := fun r h => ht.trans (bif_step (r := r) (decide_eq_true (by omega)) h)
    cases lw
    · cases hg
      · exact ht _ (bif_step rfl (bif_step (decide_eq_true hd) (bif_step rfl (bif_step rfl (bif_step (decide_eq_true hd) (bif_step rfl rfl))))))
      · exact ht _ (bif_step rfl (bif_step (decide_eq_true hd) (bif_step rfl (bif_stepF rfl rfl))))
    · cases hg
      · exact ht _ (bif_stepF rfl (bif_step rfl (bif_step (decide_eq_true hd) (bif_step rfl rfl))))
      · exact ht _ (bif_stepF rfl (bif_stepF rfl rfl))
  · rintro ⟨lw, hg⟩ _
    have ht := en_in tabJ' nl cl (ss.map spI) a b ss.length lw hg
    rw [List.length_map] at ht
    exact ht.trans (bif_stepF (decide_eq_false (by omega)) rfl)
def bigS : Sp := ⟨-9223372036854775808, 0, 9223372036854775807⟩
theorem cov_big {ss : List Sp} {x : Int} (h : -9223372036854775808 ≤ x ∧ x ≤ 9223372036854775807) : cov (ss ++ [bigS]) x = cov ss x + 1 := by
  unfold cov
  rw [List.countP_append]
  have : has bigS x = true := by
    unfold has bigS
    rw [decide_eq_true (show (-9223372036854775808 : Int) ≤ x from h.1), decide_eq_true (show x ≤ (9223372036854775807 : Int) from h.2)]; rfl
  simp [this]
def rngS (s : Sp) : Bool := decide (-9223372036854775808 ≤ s.lo ∧ s.lo ≤ 9223372036854775807 ∧ -9223372036854775808 ≤ s.hi ∧ s.hi ≤ 9223372036854775807)
noncomputable abbrev C' (nl : Option Bool) (cl : Bool) (l : List IV) : Option (IV × List Blk) := callK Try.prog hint tabJ' (ltab [(4, 506, noL)]) 30 4 [.fsl nl cl 3 l] [] (fun v T => some (v, T))
theorem ends_true (nl : Option Bool) (cl : Bool) (l : List IV) (h : spOK 3 l = true) (hr : ∀ s ∈ sps l, rngS s = true) : ∃ k, acall Try.prog hint (ovrOf tabJ') k 4 [.fsl nl cl 3 l] [] = some (.bool true, []) := by
  obtain ⟨-, hl', he⟩ := spOK_iff h
  have hll := sps_len l
  have none_run : ∀ {r}, C' nl cl l = some (r, []) → r = .bool true → ∃ k, acall Try.prog hint (ovrOf tabJ') k 4 [.fsl nl cl 3 l] [] = some (.bool true, []) := by
    intro r hC hr
    subst hr
    exact law_run (ls := ltab [(4, 506, noL)]) (n := 30) (ltab_cons (by kernel_rfl) (fun p s e s' h => by cases h) ltab_nil) hC
  have ht0 := en_none nl cl l spOK (fun l => rgLo (sps l)) (fun l => rgHi (sps l)) (fun l => rgCode (sps l)) (fun l x => ((cov (sps l) x : Nat) : Int))
  by_cases c0 : (l.length : Int) ≥ 64
  · exact none_run (ht0.trans (bif_step (decide_eq_true c0) rfl)) rfl
  replace ht0 := fun r hh => ht0.trans (bif_stepF (r := r) (decide_eq_false c0) (bif_step h hh))
  by_cases hc : rgCode (sps l) = 0
  case neg =>
    refine none_run (ht0 _ (bif_step (bne_iff_ne.2 hc) rfl)) ?_
    have hz : rgLo (sps l) = 0 ∧ rgHi (sps l) = 0 := by
      unfold rgLo rgHi
      unfold rgCode at hc
      cases hb : rgBad (sps l)
      · rw [hb, cond_false] at hc
        cases hf : (sweep (sps l)).fd
        · exact ⟨rfl, rfl⟩
        · rw [hf] at hc; exact absurd rfl hc
      · exact ⟨rfl, rfl⟩
    rw [hz.1, hz.2]; rfl
  have hb : rgBad (sps l) = false := by
    cases hb : rgBad (sps l)
    · rfl
    · unfold rgCode at hc; rw [hb] at hc; cases hc
  have hany : (sps l).any badSp = false := by
    unfold rgBad at hb
    rw [Bool.or_eq_false_iff] at hb
    exact hb.2
  have hf : (sweep (sps l)).fd = true := by
    cases hf : (sweep (sps l)).fd
    · unfold rgCode at hc; rw [hb, hf] at hc; cases hc
    · rfl
  have elo : rgLo (sps l) = (sweep (sps l)).lo := by unfold rgLo; rw [hb, hf]; rfl
  have ehi : rgHi (sps l) = (sweep (sps l)).hi := by unfold rgHi; rw [hb, hf]; rfl
  obtain ⟨⟨p1, s1, m1, q1⟩, ⟨p2, s2, m2, q2⟩⟩ := sweep_ends hany hf
  rw [← elo] at p1 q1
  rw [← ehi] at p2 q2
  obtain ⟨-, -, hab⟩ := sweep_maj (x := rgLo (sps l)) hany p1
  rw [← ehi] at hab
  have r1 := hr s1 m1
  have r2 := hr s2 m2
  simp only [rngS, decide_eq_true_eq] at r1 r2
  have a1 : ((sps l).any fun s => s.lo == rgLo (sps l)) = true := List.any_eq_true.2 ⟨s1, m1, by simpa using q1⟩
  have a2 : ((sps l).any fun s => s.hi == rgHi (sps l)) = true := List.any_eq_true.2 ⟨s2, m2, by simpa using q2⟩
  have q := en_runs (nl := nl) (cl := cl) (ss := sps l) (a := rgLo (sps l)) (b := rgHi (sps l)) (by omega)
  rw [foldE_inl (g := enStep (rgLo (sps l)) (rgHi (sps l))) (fun _ _ _ => rfl), en_fold, a1, a2, ← he, hll] at q
  have hsp : sps (l ++ [spI bigS]) = sps l ++ [bigS] := by unfold sps; rw [List.map_append]; rfl
  have hok : spOK 3 (l ++ [spI bigS]) = true := by
    have h' := h
    unfold spOK at h' ⊢
    rw [Bool.and_eq_true] at h'
    rw [List.all_append, h'.2, decide_eq_true ⟨rfl, by rw [List.length_append]; simp only [List.length_cons, List.length_nil]; omega⟩]; rfl
  have hlen2 : (sps l ++ [bigS]).length = l.length + 1 := by rw [List.length_append, hll]; rfl
  have hany2 : (sps l ++ [bigS]).any badSp = false := by rw [List.any_append, hany]; rfl
  have hb2 : rgBad (sps l ++ [bigS]) = false := by unfold rgBad; rw [hany2, decide_eq_false (by omega)]; rfl
  have k1 := sweep_maj (x := rgLo (sps l)) hany2 (by rw [cov_big ⟨by omega, by omega⟩, hlen2]; omega)
  have k2 := sweep_maj (x := rgHi (sps l)) hany2 (by rw [cov_big ⟨by omega, by omega⟩, hlen2]; omega)
  have elo2 : rgLo (sps l ++ [bigS]) = (sweep (sps l ++ [bigS])).lo := by unfold rgLo; rw [hb2, k1.1]; rfl
  have ehi2 : rgHi (sps l ++ [bigS]) = (sweep (sps l ++ [bigS])).hi := by unfold rgHi; rw [hb2, k1.1]; rfl
  have hc2 : rgCode (sps l ++ [bigS]) = 0 := by unfold rgCode; rw [hb2, k1.1]; rfl
  refine law_run (n := 30) (ltab_cons (by kernel_rfl) (loopF_ok fun vs bx e vs' bx' hm => ?_) ltab_nil) ((en_tree nl cl l spOK (fun l => rgLo (sps l)) (fun l => rgHi (sps l)) (fun l => rgCode (sps l)) (fun l x => ((cov (sps l) x : Nat) : Int)) true true).trans ?_)
  · obtain ⟨rfl, rfl, rfl, rfl, rfl⟩ := oneF_mem hm
    exact q
  have hcl1 := cov_le (sps l) (rgLo (sps l))
  have hcl2 := cov_le (sps l) (rgHi (sps l))
  refine bif_stepF (decide_eq_false c0) (bif_step h (bif_stepF (by rw [hc]; rfl) (bif_step sameS_t (bif_step (by rw [decide_eq_false (show ¬ rgLo (sps l) > rgHi (sps l) by omega)]; rfl) (bif_step h ?_)))))
  rw [show (2 : Int) * ((cov (sps l) (rgLo (sps l)) : Nat) : Int) = ((2 * cov (sps l) (rgLo (sps l)) : Nat) : Int) by omega, wi_nat (by omega), show (2 : Int) * ((cov (sps l) (rgHi (sps l)) : Nat) : Int) = ((2 * cov (sps l) (rgHi (sps l)) : Nat) : Int) by omega, wi_nat (by omega)]
  refine bif_step (by rw [cond_false, decide_eq_false (by omega)]; rfl) (bif_step h (bif_stepF (by rw [cond_false, decide_eq_false (by omega)]) ?_))
  have eL : [] ++ l ++ [IV.agg [IV.int .i64 (-9223372036854775808), IV.int .i64 0, IV.int .i64 9223372036854775807]] = l ++ [spI bigS] := rfl
  refine bif_step (decide_eq_true ⟨.inr rfl, .inl rfl, by rw [roomB_nat]; omega, by rw [maxLen_val]; omega⟩) (bif_step (decide_eq_true ⟨by rw [List.nil_append, roomB_nat]; omega, by rw [List.nil_append, maxLen_val]; omega⟩) ?_)
  rw [eL]
  refine bif_step hok ?_
  rw [hsp, hc2, elo2, ehi2, decide_eq_true k1.2.1, decide_eq_true k2.2.2]; rfl
theorem ty30' {n : Nat} {l : List IV} (h : Ty Try.prog n 30 l) : ∃ s : Sp, l = [.int .i64 s.lo, .int .i64 s.mid, .int .i64 s.hi] ∧ rngS s = true := by
  obtain ⟨m, _, h⟩ := ty_struct Try.underlying30 h
  simp only [FieldsT] at h
  obtain ⟨c1, r1, rfl, h1, c2, r2, rfl, h2, c3, r3, rfl, h3, rfl⟩ := h
  obtain ⟨a, rfl, qa, qa'⟩ := ty_int Try.underlying2 h1
  obtain ⟨b, rfl, _⟩ := ty_int Try.underlying2 h2
  obtain ⟨c, rfl, qc, qc'⟩ := ty_int Try.underlying2 h3
  refine ⟨⟨a, b, c⟩, rfl, ?_⟩
  obtain ⟨ra, rb⟩ := Go.Im.range_i64
  simp only [rngS, decide_eq_true_eq]
  omega
theorem arg22' {x : IV} (h : ArgT Try.prog 22 x) : ∃ nl cl l, x = .fsl nl cl 3 l ∧ spOK 3 l = true ∧ ∀ s ∈ sps l, rngS s = true := by
  have h0 := h
  obtain ⟨nl, cl, l, rfl, ho⟩ := arg22 h0
  refine ⟨nl, cl, l, rfl, ho, fun s hs => ?_⟩
  obtain ⟨n, l1, h1, h2, _⟩ := h
  obtain ⟨m, nl', cl', es, rfl, rfl, _, e1, e2, e3⟩ := ty_slice Try.underlying22 h1
  have hx : IV.fsl nl cl 3 l = .fsl (some nl') cl' (Try.prog.cellsOf 30) es := by
    simp only [pack, isAggT, Try.underlying22, Option.map_some] at h2
    exact (Option.some.inj h2).symm
  injection hx with _ _ _ hx
  subst hx
  obtain ⟨y, hy, rfl⟩ := List.mem_map.1 hs
  obtain ⟨cs, hq, _, ht⟩ := e3 y hy
  obtain ⟨s, rfl, hs2⟩ := ty30' ht
  rw [pack_struct Try.underlying30 hq cells30.symm]
  exact hs2
theorem chooseEnds_run (xs : List IV) (hl : xs.length = Try.f4.params.size) (h : ∀ (i : Nat) t, Try.f4.params[i]? = some t → ∃ x, xs[i]? = some x ∧ ArgT Try.prog t x) :
    ∃ k, acall Try.prog hint (ovrOf tabJ') k 4 xs [] = some (.bool true, []) := by
  rw [Try.params4] at hl h
  obtain ⟨x0, g0, a0⟩ := h 0 22 rfl
  match xs, hl with
  | [y0], _ =>
    simp only [List.getElem?_cons_zero, Option.some.injEq] at g0
    subst g0
    obtain ⟨nl, cl, l, rfl, ho, hr⟩ := arg22' a0
    exact ends_true nl cl l ho hr
end
end Go.Proofs.Ytfcedalbamafiaa
