/- The document's Match: the whole call. It bears no condition. -/
import Derived.Test.YtgbddcdpbgaojaaBdB
import Derived.Test.YtgbddcdpbgaojaaBbI
namespace Go.Proofs.Ytgbddcdpbgaojaa
open Go Go.Im
set_option linter.unusedVariables false
set_option linter.unusedSimpArgs false
set_option maxRecDepth 20000
noncomputable section

theorem in13 : loopsOf (2 * 58) (loopAt Try.prog 13 58) = [(29850, itemAt Try.prog 13 29850)] := by kernel_rfl
theorem one13_ok {F : LoopF} (h1 : LoopOK Try.prog hint NM (itOf Try.prog hint NM) (hint.kp 13) (itemAt Try.prog 13 29850) F) : LoopsOK Try.prog hint NM (ltab [(13, 29850, F)]) ∧
    ItemsOK Try.prog hint NM (itOf Try.prog hint NM) (ltab [(13, 29850, F)] 13) (hint.kp 13) (2 * 58) (loopAt Try.prog 13 58) := by
  refine ⟨ltab_cons (by kernel_rfl) h1 ltab_nil, fun x hx G hG => ?_⟩
  rw [in13, List.mem_singleton] at hx
  subst hx
  cases hG
  exact h1
theorem no13_ok : LoopsOK Try.prog hint NM (ltab [(13, 29850, noL)]) ∧ ItemsOK Try.prog hint NM (itOf Try.prog hint NM) (ltab [(13, 29850, noL)] 13) (hint.kp 13) (2 * 58) (loopAt Try.prog 13 58) := one13_ok (F := noL) (fun p s e s' h => by cases h)
/-- What the rounds have left in the last two slots. -/
def Lst2 (d e : IV) : Prop := (d = .undef ∧ e = .undef) ∨ ∃ m k : Int, d = .int .i64 m ∧ e = .int .i64 k
abbrev tA (m : Int × Int) : Int := m.1
abbrev tB (m : Int × Int) : Int := m.2
abbrev rowA (out : List (Int × Int)) : List IV := (out.map tA).map (IV.int .i64)
abbrev rowB2 (out : List (Int × Int)) : List IV := (out.map tB).map (IV.int .i64)
theorem m3_round {l : List IV} (ha : l.all isEv = true) (hl : l.length ≤ 1000) {i : Nat} (hi : i < l.length) {out : List (Int × Int)} (ho : out.length ≤ i) {d e : IV} (hd : Lst2 d e) :
    ∃ ls, (LoopsOK Try.prog hint NM ls ∧ ItemsOK Try.prog hint NM (itOf Try.prog hint NM) (ls 13) (hint.kp 13) (2 * 58) (loopAt Try.prog 13 58)) ∧ ∃ d' e', Lst2 d' e' ∧
      Rl M3T ls 0 13 58 (Sx 13 (m3V l (i : Int) d e) (m3B (rowA out) (rowB2 out))) = some (.normal, Sx 13 (m3V l ((i + 1 : Nat) : Int) d' e') (m3B (rowA (rStep (evs l) i out (evOf l[i]))) (rowB2 (rStep (evs l) i out (evOf l[i]))))) := by
  have hinn := fun h3 => m3_inner ha hl hi h3 (a := rowA out) (ys := out.map tB) (by rw [List.length_map]; omega) i 0 (by omega)
  have hfn := m3F_fnd ((evs l).take i) (out.map tB) (evOf l[i]).t
  rw [show ((evs l).take i).length = i by rw [List.length_take, List.length_map]; omega] at hfn
  obtain ⟨ni, ci, hxi, _⟩ := isEv_iff (List.all_eq_true.1 ha _ (List.getElem_mem hi))
  have hNi := nthD_at hi
  rw [hxi] at hNi
  generalize evOf l[i] = x at *
  have q0 : Im.intOf (nthD (List.drop 0 (IV.agg [.int .i64 x.kind, .int .u32 x.host, .int .u32 x.peer, .int .i64 x.at_, .fsl ni ci 1 (u8s x.bytes)]).cells) 0) = x.kind := Eq.trans rfl rfl
  have c5 : (5 : Nat) = 5 ∧ (0 : Int) ≤ (i : Int) ∧ (i : Int) < (l.length : Int) := ⟨rfl, by omega, by omega⟩
  by_cases h3 : x.kind = 3
  · have hr : rStep (evs l) i out x = out ++ [((i : Int), fnd ((evs l).take i) (out.map tB) x.t)] := if_pos h3
    rw [hr]
    have kb : (x.kind != (3 : Int)) = false := by rw [h3]; rfl
    replace hinn := hinn h3
    rw [hfn] at hinn
    generalize (m3F ((evs l).take i) (out.map tB) x.t 0 i).2 = kk at *
    generalize fnd ((evs l).take i) (out.map tB) x.t = mm at *
    have r1 : ∀ y : IV, ((rowA out).length + [y].length) * 8 ≤ roomB ∧ (rowA out).length + [y].length ≤ maxLen := fun y => by
      rw [roomB_nat, maxLen_val]; simp only [List.length_cons, List.length_nil, List.length_map]; omega
    have r2 : ∀ y : IV, ((rowB2 out).length + [y].length) * 8 ≤ roomB ∧ (rowB2 out).length + [y].length ≤ maxLen := fun y => by
      rw [roomB_nat, maxLen_val]; simp only [List.length_cons, List.length_nil, List.length_map]; omega
    have eA : rowA (out ++ [((i : Int), mm)]) = rowA out ++ [.int .i64 (i : Int)] := by simp [rowA]
    have eB : rowB2 (out ++ [((i : Int), mm)]) = rowB2 out ++ [.int .i64 mm] := by simp [rowB2]
    rw [eA, eB]
    have hls := one13_ok (F := LF 13 0 (oneF (m3V l (i : Int) (.int .i64 (-1)) (.int .i64 0)) (m3B (rowA out) (rowB2 out)) (.exit 2) (m3V l (i : Int) (.int .i64 mm) (.int .i64 kk)) (m3B (rowA out) (rowB2 out)))) (by
      refine loopF_ok fun vs bx e vs' bx' hm => ?_
      obtain ⟨rfl, rfl, rfl, rfl, rfl⟩ := oneF_mem hm
      exact hinn)
    refine ⟨_, hls, .int .i64 mm, .int .i64 kk, .inr ⟨_, _, rfl, rfl⟩, ?_⟩
    rcases hd with ⟨rfl, rfl⟩ | ⟨m0, k0, rfl, rfl⟩
    · have ht := m3_A1 cA gA cTk gTk l (rowA out) (rowB2 out) i mm kk
      rw [hNi, q0, wadd1 (by omega)] at ht
      exact ht.trans (bif_step (decide_eq_true (by omega)) (bif_step (decide_eq_true c5) (bif_step rfl (bif_stepF kb (bif_step sameS_t (bif_step (decide_eq_true (r1 _)) (bif_step (decide_eq_true (r2 _)) rfl)))))))
    · have ht := m3_B1 cA gA cTk gTk l (rowA out) (rowB2 out) i m0 k0 mm kk
      rw [hNi, q0, wadd1 (by omega)] at ht
      exact ht.trans (bif_step (decide_eq_true (by omega)) (bif_step (decide_eq_true c5) (bif_step rfl (bif_stepF kb (bif_step sameS_t (bif_step (decide_eq_true (r1 _)) (bif_step (decide_eq_true (r2 _)) rfl)))))))
  · have hr : rStep (evs l) i out x = out := if_neg h3
    rw [hr]
    have kb : (x.kind != (3 : Int)) = true := bne_iff_ne.2 h3
    refine ⟨_, no13_ok, d, e, hd, ?_⟩
    rcases hd with ⟨rfl, rfl⟩ | ⟨m0, k0, rfl, rfl⟩
    · have ht := m3_A0 cA gA cTk gTk l (rowA out) (rowB2 out) i
      rw [hNi, q0, wadd1 (by omega)] at ht
      exact ht.trans (bif_step (decide_eq_true (by omega)) (bif_step (decide_eq_true c5) (bif_step rfl (bif_step kb rfl))))
    · have ht := m3_B0 cA gA cTk gTk l (rowA out) (rowB2 out) i m0 k0
      rw [hNi, q0, wadd1 (by omega)] at ht
      exact ht.trans (bif_step (decide_eq_true (by omega)) (bif_step (decide_eq_true c5) (bif_step rfl (bif_step kb rfl))))
theorem rStep_len (l : List Ev) (i : Nat) (out : List (Int × Int)) (e : Ev) : (rStep l i out e).length ≤ out.length + 1 := by
  unfold rStep
  split
  · simp
  · omega
theorem m3_runs {l : List IV} (ha : l.all isEv = true) (hl : l.length ≤ 1000) : ∀ (k i : Nat) (out : List (Int × Int)) (d e : IV), i + k = l.length → out.length ≤ i → Lst2 d e →
    ∃ d' e', Lst2 d' e' ∧ Runs Try.prog hint NM 0 (hint.kp 13) (loopAt Try.prog 13 58) (Sx 13 (m3V l (i : Int) d e) (m3B (rowA out) (rowB2 out))) (.exit 0)
      (Sx 13 (m3V l (l.length : Int) d' e') (m3B (rowA (ifold (rStep (evs l)) i out ((evs l).drop i))) (rowB2 (ifold (rStep (evs l)) i out ((evs l).drop i)))))
  | 0, i, out, d, e, h, ho, hd => by
    obtain rfl : i = l.length := by omega
    rw [show (evs l).drop l.length = [] by rw [List.drop_eq_nil_iff, List.length_map]; omega]
    refine ⟨d, e, hd, ?_⟩
    rcases hd with ⟨rfl, rfl⟩ | ⟨m0, k0, rfl, rfl⟩
    · exact Runs.last no13_ok.1 no13_ok.2 (by simp) ((m3_A0 cA gA cTk gTk l (rowA out) (rowB2 out) l.length).trans (bif_stepF (decide_eq_false (by omega)) rfl))
    · exact Runs.last no13_ok.1 no13_ok.2 (by simp) ((m3_B0 cA gA cTk gTk l (rowA out) (rowB2 out) l.length m0 k0).trans (bif_stepF (decide_eq_false (by omega)) rfl))
  | k + 1, i, out, d, e, h, ho, hd => by
    have hi : i < l.length := by omega
    obtain ⟨ls, hok, d1, e1, hd1, hr⟩ := m3_round ha hl hi ho hd
    have e2 : (evs l).drop i = evOf l[i] :: (evs l).drop (i + 1) := by
      rw [List.drop_eq_getElem_cons (by rw [List.length_map]; exact hi)]
      simp [evs]
    have hlen := rStep_len (evs l) i out (evOf l[i])
    obtain ⟨d2, e3, hd2, hrun⟩ := m3_runs ha hl k (i + 1) (rStep (evs l) i out (evOf l[i])) d1 e1 (by omega) (by omega) hd1
    refine ⟨d2, e3, hd2, ?_⟩
    rw [e2]
    exact Runs.step hok.1 hok.2 hr hrun
def gRa (l : List IV) : List IV := rowA (mat (evs l))
def gRb (l : List IV) : List IV := rowB2 (mat (evs l))
theorem rmatch_known : Known Try.prog hint 13 (rmP cM gRa gRb) := by
  refine known_frz fits fun us T v T1 h => ?_
  unfold rmP at h
  split at h
  case h_2 => cases h
  rename_i nl cl l
  simp only [List.mem_cons, List.not_mem_nil, or_false, Prod.mk.injEq, Bool.true_eq, cM, Bool.and_eq_true, decide_eq_true_eq] at h
  obtain ⟨⟨h1, h2⟩, rfl, rfl⟩ := h
  refine ⟨rfl, rfl, [[.fsl none false 5 l]], by simp, Splits.wk (WkL.cons (Wk.fsl rfl (.inl rfl) (by simp) (.inl rfl)) WkL.nil), fun ys hy => ?_⟩
  rw [List.mem_singleton] at hy
  subst hy
  obtain ⟨d', e', hd', q⟩ := m3_runs h2 h1 l.length 0 [] .undef .undef (by omega) (by simp) (.inl ⟨rfl, rfl⟩)
  rw [List.drop_zero, show ifold (rStep (evs l)) 0 [] (evs l) = mat (evs l) from rmat_eq (evs l)] at q
  have hls : LoopsOK Try.prog hint NM (ltab [(13, 58, LF 13 0 (oneF (m3V l 0 .undef .undef) (m3B [] []) (.exit 0) (m3V l (l.length : Int) d' e') (m3B (gRa l) (gRb l))))]) := by
    refine ltab_cons (by kernel_rfl) (loopF_ok fun vs bx e vs' bx' hm => ?_) ltab_nil
    obtain ⟨rfl, rfl, rfl, rfl, rfl⟩ := oneF_mem hm
    exact q
  refine ⟨noGd_of rfl, M3T, _, M3T_ok, hls, 30, .tup [.osl 0 0, .osl 1 0], [.row 0 false 1 (gRa l), .row 0 false 1 (gRb l)], .tup [.fsl none false 1 (gRa l), .fsl none false 1 (gRb l)], [0, 1], ?_, rfl, Wk.refl _⟩
  rcases hd' with ⟨rfl, rfl⟩ | ⟨m0, k0, rfl, rfl⟩
  · exact (m3_callA cA gA cTk gTk l (gRa l) (gRb l) l.length).trans (bif_step sameS_t rfl)
  · exact (m3_callB cA gA cTk gTk l (gRa l) (gRb l) l.length m0 k0).trans (bif_step sameS_t rfl)
end
end Go.Proofs.Ytgbddcdpbgaojaa
