/- DerBack and DerEnds at all arguments that are not too great. It bears no condition. -/
import Derived.Test.YtolpgbgmldpneaaDtK
namespace Go.Proofs.Ytolpgbgmldpneaa
open Go Go.Im
set_option linter.unusedVariables false
set_option linter.unusedSimpArgs false
set_option maxRecDepth 20000
noncomputable section

theorem okBs' {l : List UInt8} : (decide ((1 : Nat) = 1 ∨ l.length = 0) && isBytes (u8s l)) = true := by
  rw [isBytes_u8s, decide_eq_true (.inl rfl)]; rfl
theorem db_tail {b : List UInt8} (hl : b.length ≤ 3000) :
  (bif cRd 1 (u8s b) then
             bif (rdG (u8s b)).fc != (0 : Int) then
               bif
                   cS2 (ndV (rdG (u8s b)).t none false (1 : Nat) (rdG (u8s b)).bs none false (3 : Nat) (rdG (u8s b)).ks)
                     (ndV (0 : Int) (some true) true (0 : Nat) [] (some true) true (0 : Nat) []) then
                 some
                   (IV.bool
                       (bif
                           bif
                               bif true then
                                 gSa (ndV (rdG (u8s b)).t none false (1 : Nat) (rdG (u8s b)).bs none false (3 : Nat) (rdG (u8s b)).ks)
                                   (ndV (0 : Int) (some true) true (0 : Nat) [] (some true) true (0 : Nat) [])
                               else false then
                             decide ((rdG (u8s b)).fa ≥ (0 : Int))
                           else false then
                         decide ((rdG (u8s b)).fa ≤ (↑(u8s b).length : Int))
                       else false),
                     [])
               else none
             else
               bif cN (ndV (rdG (u8s b)).t none false (1 : Nat) (rdG (u8s b)).bs none false (3 : Nat) (rdG (u8s b)).ks) then
                 bif cN (ndV (rdG (u8s b)).t none false (1 : Nat) (rdG (u8s b)).bs none false (3 : Nat) (rdG (u8s b)).ks) then
                   bif
                       decide
                           ((1 : Nat) = (1 : Nat) ∨
                             (gWr (ndV (rdG (u8s b)).t none false (1 : Nat) (rdG (u8s b)).bs none false (3 : Nat) (rdG (u8s b)).ks)).length =
                               (0 : Nat)) &&
                         isBytes (gWr (ndV (rdG (u8s b)).t none false (1 : Nat) (rdG (u8s b)).bs none false (3 : Nat) (rdG (u8s b)).ks)) then
                     bif decide ((1 : Nat) = (1 : Nat) ∨ (u8s b).length = (0 : Nat)) && isBytes (u8s b) then
                       some
                         (IV.bool
                             (bif
                                 bif
                                     bif true then
                                       gRight (ndV (rdG (u8s b)).t none false (1 : Nat) (rdG (u8s b)).bs none false (3 : Nat) (rdG (u8s b)).ks)
                                     else false then
                                   gWe (ndV (rdG (u8s b)).t none false (1 : Nat) (rdG (u8s b)).bs none false (3 : Nat) (rdG (u8s b)).ks) ==
                                     (0 : Int)
                                 else false then
                               toBytes (gWr (ndV (rdG (u8s b)).t none false (1 : Nat) (rdG (u8s b)).bs none false (3 : Nat) (rdG (u8s b)).ks)) ==
                                 toBytes (u8s b)
                             else false),
                           [])
                     else none
                   else none
                 else none
               else none
           else none : Option (IV × List Blk)) = some (.bool true, []) := by
  obtain ⟨f1, f2⟩ := rd_fc b
  rw [rd_iv, f1, f2, u8s_len]
  refine bif_step (cRd_of (by omega)) ?_
  by_cases h0 : (rdF b).fc = 0
  · obtain ⟨r1, r2, r3, r4⟩ := rd_ok h0
    have hc : cN (ndIV (rdF b).x) = true := cN_iv (by omega)
    have hg : gRight (ndIV (rdF b).x) = true := by rw [gR_iv, r1]
    obtain ⟨w1, w2⟩ := gWr_ok (x := ndIV (rdF b).x) hg (by rw [(nd_iv _).1, r2]; omega)
    have w3 : gWr (ndIV (rdF b).x) = u8s b := by rw [w1]; unfold gPut; rw [(nd_iv _).1, r2]
    refine bif_stepF (by rw [h0]; rfl) (bif_step hc (bif_step hc (bif_step (by rw [w3]; exact okBs) (bif_step okBs' ?_))))
    rw [hg, w2, w3, beq_self_eq_true, beq_self_eq_true]
    rfl
  · obtain ⟨r1, r2⟩ := rd_no h0
    rw [r1]
    refine bif_step (bne_iff_ne.2 h0) (bif_step (by decide) ?_)
    rw [decide_eq_true (by omega), decide_eq_true (by omega)]
    rfl


theorem derBack_run (xs : List IV) (hl : xs.length = Try.f4.params.size) (h : ∀ (i : Nat) t, Try.f4.params[i]? = some t → ∃ x, xs[i]? = some x ∧ ArgT Try.prog t x ∧ ivB x ≤ 1048576) :
    ∃ k, acall Try.prog hint (ovrOf tabK') k 4 xs [] = some (.bool true, []) := by
  rw [Try.params4] at hl h
  obtain ⟨x0, g0, a0, b0⟩ := h 0 25 rfl
  obtain ⟨x1, g1, a1, b1⟩ := h 1 22 rfl
  match xs, hl with
  | [y0, y1], _ =>
    simp only [List.getElem?_cons_zero, List.getElem?_cons_succ, Option.some.injEq] at g0 g1
    subst g0 g1
    obtain ⟨t, n1, c1, z1, bs, n2, c2, z2, ks, hx0, hc⟩ := arg25 a0 b0
    obtain ⟨nl, cl, b, rfl, hbl⟩ := arg22 a1 b1
    have hd : C tabK' 4 [ndV t n1 c1 z1 bs n2 c2 z2 ks, .fsl (some nl) cl 1 (u8s b)] = _ := db_tree cN gHeavy cN gWr gWe cN gRight cS2 gSa cRd rdG t n1 c1 z1 bs n2 c2 z2 ks (some nl) cl 1 (u8s b)
    rw [← hx0] at hd
    clear a0 a1 h
    generalize y0 = A at *
    by_cases hh : (bif gHeavy A then true else decide (((u8s b).length : Int) > 3000)) = true
    · exact law_run loops_none (n := 30) (hd.trans (bif_step hc (bif_step hh rfl)))
    have hh' : (bif gHeavy A then true else decide (((u8s b).length : Int) > 3000)) = false := by simpa using hh
    have hlen : b.length ≤ 3000 := by
      cases hv : gHeavy A
      · rw [hv, cond_false] at hh'
        have := of_decide_eq_false hh'
        rw [u8s_len] at this
        omega
      · rw [hv] at hh'; cases hh'
    replace hd := hd.trans (bif_t hc)
    replace hd := hd.trans (bif_f hh')
    replace hd := hd.trans (bif_t hc)
    rcases gW3 A with ⟨w1, w2⟩ | ⟨w1, w2⟩ | ⟨w1, w2, w3, w4⟩
    · exact law_run loops_none (n := 30) (hd.trans (bif_stepF (by rw [w2]; rfl) (db_tail hlen)))
    · exact law_run loops_none (n := 30) (hd.trans (bif_stepF (by rw [w2]; rfl) (db_tail hlen)))
    · rw [w3, rd_iv, (rd_fc _).1] at hd
      have hr := rd_wr (x := ndOf A) w1 w4
      rw [hr] at hd
      have hs := cN_sz hc
      refine law_run loops_none (n := 30) (hd.trans (bif_step (by rw [w2]; rfl) (bif_step (cRd_of (by omega)) (bif_step rfl (bif_step ?_ (bif_stepF ?_ (db_tail hlen)))))))
      · show (cN (ndIV (ndOf A)) && cN A) = true
        rw [cN_iv hs, hc]; rfl
      · show (bif false then true else !gSa (ndIV (ndOf A)) A) = false
        have : gSa (ndIV (ndOf A)) A = true := by unfold gSa; rw [(nd_iv _).1]; exact same_refl _
        rw [this]; rfl
theorem derEnds_run (xs : List IV) (hl : xs.length = Try.f5.params.size) (h : ∀ (i : Nat) t, Try.f5.params[i]? = some t → ∃ x, xs[i]? = some x ∧ ArgT Try.prog t x ∧ ivB x ≤ 1048576) :
    ∃ k, acall Try.prog hint (ovrOf tabK') k 5 xs [] = some (.bool true, []) := by
  rw [Try.params5] at hl h
  obtain ⟨x0, g0, a0, b0⟩ := h 0 25 rfl
  obtain ⟨x1, g1, a1, b1⟩ := h 1 5 rfl
  obtain ⟨x2, g2, a2, b2⟩ := h 2 3 rfl
  match xs, hl with
  | [y0, y1, y2], _ =>
    simp only [List.getElem?_cons_zero, List.getElem?_cons_succ, Option.some.injEq] at g0 g1 g2
    subst g0 g1 g2
    obtain ⟨t, n1, c1, z1, bs, n2, c2, z2, ks, hx0, hc⟩ := arg25 a0 b0
    obtain ⟨m, rfl, hm1, hm2⟩ := arg_int und5 a1
    obtain ⟨cut, rfl, _, _⟩ := arg_int und3 a2
    have hd : C tabK' 5 [ndV t n1 c1 z1 bs n2 c2 z2 ks, .int .u8 m, .int .i64 cut] = _ := de_tree cN gHeavy cN gWr gWe cN gRight cS2 gSa cRd rdG t n1 c1 z1 bs n2 c2 z2 ks m cut
    rw [← hx0] at hd
    clear a0 a1 a2 h
    generalize y0 = A at *
    cases hh : gHeavy A
    case true => exact law_run loops_none (n := 30) (hd.trans (bif_step hc (bif_step hh rfl)))
    replace hd := hd.trans (bif_t hc)
    replace hd := hd.trans (bif_f hh)
    replace hd := hd.trans (bif_t hc)
    rcases gW3 A with ⟨w1, w2⟩ | ⟨w1, w2⟩ | ⟨w1, w2, w3, w4⟩
    · exact law_run loops_none (n := 30) (hd.trans (bif_step (by rw [w2]; rfl) rfl))
    · exact law_run loops_none (n := 30) (hd.trans (bif_step (by rw [w2]; rfl) rfl))
    have hmb : ∃ mb : UInt8, [IV.int .u8 m] = u8s [mb] := by
      have r := Go.Im.range_u8
      refine ⟨u8of m, ?_⟩
      have := u8of_toNat m
      rw [u8s_cons, this]
      show [IV.int .u8 m] = [IV.int .u8 (m % 256)]
      rw [show m % 256 = m by omega]
    obtain ⟨mb, hmb⟩ := hmb
    generalize hX : (ndOf A).wr = X at *
    rw [w3, hmb, List.nil_append, ← u8s_app, u8s_len, u8s_len] at hd
    by_cases hlen : X.length ≥ 65535
    · exact law_run loops_none (n := 30) (hd.trans (bif_step (by rw [w2, decide_eq_true (by omega : ((X.length : Nat) : Int) ≥ 65535)]; rfl) rfl))
    obtain ⟨m1, m2⟩ := rd_more (x := ndOf A) w1 (by rw [hX]; omega) mb
    rw [hX] at m1 m2
    have hle : (X ++ [mb]).length = X.length + 1 := by rw [List.length_append]; rfl
    obtain ⟨k1, k2⟩ := rd_fc (X ++ [mb])
    rw [k1, k2, m1, m2] at hd
    replace hd := hd.trans (bif_f (by rw [w2, decide_eq_false (by omega : ¬ ((X.length : Nat) : Int) ≥ 65535)]; rfl))
    replace hd := hd.trans (bif_t (decide_eq_true (by rw [roomB_nat, maxLen_val]; omega)))
    replace hd := hd.trans (bif_t (decide_eq_true (by rw [roomB_nat, maxLen_val]; simp only [List.length_cons, List.length_nil, u8s_len]; omega)))
    replace hd := hd.trans (bif_t (cRd_of (by omega)))
    replace hd := hd.trans (bif_f (by rw [beq_self_eq_true]; rfl))
    by_cases hcut : 0 ≤ cut ∧ cut < X.length
    case neg =>
      refine law_run loops_none (n := 30) (hd.trans (bif_step ?_ rfl))
      by_cases hneg : cut < 0
      · rw [decide_eq_true hneg]; rfl
      · rw [decide_eq_false hneg, decide_eq_true (by omega : cut ≥ (X.length : Int))]; rfl
    obtain ⟨c, rfl⟩ : ∃ c : Nat, cut = c := ⟨cut.toNat, by omega⟩
    have htake : List.take ((c : Int).toNat - 0) (List.drop 0 (u8s X)) = u8s (X.take c) := by
      rw [Int.toNat_natCast, Nat.sub_zero, List.drop_zero, u8sT]
    rw [htake] at hd
    obtain ⟨q1, q2⟩ := rd_cut (x := ndOf A) w1 (by rw [hX]; omega) (c := c) (by rw [hX]; omega)
    rw [hX] at q1 q2
    obtain ⟨k3, k4⟩ := rd_fc (X.take c)
    rw [k3, k4, q1, q2] at hd
    have htl : (X.take c).length ≤ 100000000 := by rw [List.length_take]; omega
    refine law_run loops_none (n := 30) (hd.trans (bif_stepF ?_ (bif_step (decide_eq_true (by omega)) (bif_step (cRd_of htl) ?_))))
    · rw [decide_eq_false (by omega : ¬ ((c : Nat) : Int) < 0), decide_eq_false (by omega : ¬ ((c : Nat) : Int) ≥ (X.length : Int))]; rfl
    · rw [beq_self_eq_true]; rfl
end
end Go.Proofs.Ytolpgbgmldpneaa
