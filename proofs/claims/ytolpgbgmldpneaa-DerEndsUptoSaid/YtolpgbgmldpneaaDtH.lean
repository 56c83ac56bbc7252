/- Values are read: a value is known. It bears no condition. -/
import Derived.Test.YtolpgbgmldpneaaDtG
import Derived.Test.YtolpgbgmldpneaaDtC
import Derived.Test.YtolpgbgmldpneaaDtF
namespace Go.Proofs.Ytolpgbgmldpneaa
open Go Go.Im
set_option linter.unusedVariables false
set_option linter.unusedSimpArgs false
set_option maxRecDepth 20000
noncomputable section

def cV (d : Nat) (z : Nat) (bs : List IV) (e l a k : Int) : Bool := decide (z = 1 ∧ bs.length ≤ 65535 ∧ (0 ≤ a ∧ a ≤ bs.length) ∧ (0 ≤ e ∧ e ≤ bs.length) ∧ (0 ≤ k ∧ k ≤ 4096) ∧ 0 ≤ l ∧ l < d) && okB bs
def vOf (r : Vp) : Vr := ⟨r.ok, r.x.tag, u8s r.x.bytes, r.x.kids.map ndIV, r.a, r.k, r.fa, r.fc⟩
def gV (bs : List IV) (e l a k : Int) : Vr := vOf (vF (toBytes bs) l.toNat e.toNat a.toNat k.toNat)
theorem gV_eq (b : List UInt8) (e l a k : Nat) : gV (u8s b) e l a k = vOf (vF b l e a k) := by
  unfold gV
  rw [toBytes_u8s, Int.toNat_natCast, Int.toNat_natCast, Int.toNat_natCast, Int.toNat_natCast]
theorem gSz_eq (b : List UInt8) (a e : Nat) : gSz (u8s b) a e = szF b e a := by
  unfold gSz
  rw [toBytes_u8s, Int.toNat_natCast, Int.toNat_natCast]
theorem cV_of {d : Nat} {b : List UInt8} {e l a k : Nat} (h1 : b.length ≤ 65535) (h2 : a ≤ b.length) (h3 : e ≤ b.length) (h4 : k ≤ 4096) (h5 : l < d) : cV d 1 (u8s b) e l a k = true := by
  unfold cV
  rw [okB_u8s, u8s_len, decide_eq_true ⟨rfl, h1, by omega, by omega, by omega, by omega⟩]
  rfl
theorem cSz_of {b : List UInt8} {a e : Nat} (h1 : b.length ≤ 65535) (h2 : a ≤ b.length) (h3 : e ≤ b.length) : cSz 1 (u8s b) a e = true := by
  unfold cSz
  rw [okB_u8s, u8s_len, decide_eq_true ⟨rfl, by omega, by omega, by omega, by omega, by omega⟩]
  rfl
abbrev vT' (d : Nat) : FuncId → Option SpecF := vT (cV d) gV cSz gSz gMany cCl cFt gFt cKs gRis
theorem vT_ok {d : Nat} (ih : Known Try.prog hint 37 (valP (cV d) gV)) : ∀ f F, vT' d f = some F → Known Try.prog hint f F :=
  tab_cons ih (tab_cons size_known (tab_cons many_known (tab_cons clone_known (tab_cons fit_known (tab_cons ordered_known tab_nil)))))
theorem iv_of (r : Vp) : IV.agg [.int .i64 (vOf r).t, .fsl none false 1 (vOf r).bs, .fsl none false 3 (vOf r).ks] = ndIV r.x := (ndIV_mk r.x).symm

/-! ### The kids -/
theorem vl_runs {d m : Nat} {nb : Option Bool} {cb : Bool} {b : List UInt8} {stop bg : Nat} {t : Int} (hb : b.length ≤ 65535) (hs : stop ≤ b.length) (hm : m < d) (hm2 : m ≤ 1000000) :
    ∀ (f : Nat) (acc : List Nd) (a k : Nat), stop - a ≤ f → a ≤ stop → k ≤ 4096 → acc.length ≤ k →
      ((vLoop (vF b m stop) stop f acc a k).ok = true → Runs Try.prog hint (acall Try.prog hint (ovrOf (vT' d))) 1 (hint.kp 37) (loopAt Try.prog 37 16380) (Sx 37 (vlV ((m + 1 : Nat) : Int) bg stop) (vlB nb cb 1 (u8s b) a k 0 0 t (acc.map ndIV))) (.exit 1)
        (Sx 37 (vlV ((m + 1 : Nat) : Int) bg stop) (vlB nb cb 1 (u8s b) (vLoop (vF b m stop) stop f acc a k).a (vLoop (vF b m stop) stop f acc a k).k 0 0 t ((vLoop (vF b m stop) stop f acc a k).ks.map ndIV)))) ∧
      ((vLoop (vF b m stop) stop f acc a k).ok = false → Runs Try.prog hint (acall Try.prog hint (ovrOf (vT' d))) 1 (hint.kp 37) (loopAt Try.prog 37 16380) (Sx 37 (vlV ((m + 1 : Nat) : Int) bg stop) (vlB nb cb 1 (u8s b) a k 0 0 t (acc.map ndIV))) .ret
        (Sx 37 (vlV ((m + 1 : Nat) : Int) bg stop) (vlB nb cb 1 (u8s b) (vLoop (vF b m stop) stop f acc a k).a (vLoop (vF b m stop) stop f acc a k).k (vLoop (vF b m stop) stop f acc a k).fa (vLoop (vF b m stop) stop f acc a k).fc t ((vLoop (vF b m stop) stop f acc a k).ks.map ndIV)))) := by
  intro f
  induction f with
  | zero =>
    intro acc a k h1 h2 h3 h4
    have ht := v_in (cV d) gV cSz gSz gMany cCl cFt gFt cKs gRis nb cb 1 (u8s b) a k t (acc.map ndIV) ((m + 1 : Nat) : Int) bg stop
    unfold vLoop
    refine ⟨fun _ => ?_, fun h => by cases h⟩
    exact Runs.last (n := 30) (ls := fun _ _ => none) loops_none inner0 (by simp) (ht.trans (bif_stepF (decide_eq_false (by omega)) rfl))
  | succ f ih =>
    intro acc a k h1 h2 h3 h4
    have ht := v_in (cV d) gV cSz gSz gMany cCl cFt gFt cKs gRis nb cb 1 (u8s b) a k t (acc.map ndIV) ((m + 1 : Nat) : Int) bg stop
    by_cases ha : a < stop
    case neg =>
      unfold vLoop
      rw [if_neg ha]
      refine ⟨fun _ => ?_, fun h => by cases h⟩
      exact Runs.last (n := 30) (ls := fun _ _ => none) loops_none inner0 (by simp) (ht.trans (bif_stepF (decide_eq_false (by omega)) rfl))
    have w1 : IntKind.i64.wrap (((m + 1 : Nat) : Int) - 1) = (m : Int) := by rw [wrap_i64]; omega
    rw [w1, gV_eq, iv_of] at ht
    have hc : (bif decide ((0 : Int) = (0 : Int) ∧ (0 : Int) = (0 : Int)) then cV d 1 (u8s b) stop m a k else false) = true := by
      rw [decide_eq_true ⟨rfl, rfl⟩, cV_of hb (by omega) hs h3 hm]; rfl
    replace ht := fun r q => ht.trans (bif_step (r := r) (decide_eq_true (by omega)) (bif_step hc q))
    cases hv : (vF b m stop a k).ok
    · have e : vLoop (vF b m stop) stop (f + 1) acc a k = ⟨false, acc, (vF b m stop a k).a, (vF b m stop a k).k, (vF b m stop a k).fa, (vF b m stop a k).fc⟩ := by
        conv => lhs; unfold vLoop
        rw [if_pos ha, if_neg (by rw [hv]; simp)]
      rw [e]
      refine ⟨(fun h => by cases h), fun _ => ?_⟩
      exact Runs.last (n := 30) (ls := fun _ _ => none) loops_none inner0 (by simp) (ht _ (bif_step (by show (!(vF b m stop a k).ok) = true; rw [hv]; rfl) rfl))
    · obtain ⟨x, p, g⟩ := vF_ok (b := b) (by omega) m stop a k hs h3 hv
      have e : vLoop (vF b m stop) stop (f + 1) acc a k = vLoop (vF b m stop) stop f (acc ++ [x]) (a + p) (k + x.num) := by
        conv => lhs; unfold vLoop
        rw [if_pos ha, if_pos hv, g.eq]
      rw [e]
      rw [g.eq] at ht
      have g2 := g.two
      have g3 := g.fit
      have g4 := g.num
      have hn := num_pos x
      obtain ⟨i1, i2⟩ := ih (acc ++ [x]) (a + p) (k + x.num) (by omega) g3 g4 (by rw [List.length_append]; simp only [List.length_cons, List.length_nil]; omega)
      rw [List.map_append] at i1 i2
      have hst := ht _ (bif_stepF rfl (bif_step (decide_eq_true (by
        rw [roomB_nat, maxLen_val, List.length_map]
        simp only [List.length_cons, List.length_nil]
        omega)) rfl))
      exact ⟨fun h => Runs.step (n := 30) (ls := fun _ _ => none) loops_none inner0 hst (i1 h), fun h => Runs.step (n := 30) (ls := fun _ _ => none) loops_none inner0 hst (i2 h)⟩

/-! ### A value -/
theorem wk_zero {b : Bool} : Wk (.tup [.agg [.int .i64 0, .fsl (some true) true 0 [], .fsl (some true) true 0 []], .bool b]) (.tup [.agg [.int .i64 0, .fsl none false 1 [], .fsl none false 3 []], .bool b]) :=
  wk_tup (Wk.agg (WkL.cons (Wk.refl _) (WkL.cons nil_fsl (WkL.cons (Wk.fsl rfl (.inl rfl) (by simp) (.inr rfl)) WkL.nil))))
theorem wk_leaf {t : Int} {l : List IV} {b : Bool} : Wk (.tup [.agg [.int .i64 t, .fsl none false 1 l, .fsl (some true) true 0 []], .bool b]) (.tup [.agg [.int .i64 t, .fsl none false 1 l, .fsl none false 3 []], .bool b]) :=
  wk_tup (Wk.agg (WkL.cons (Wk.refl _) (WkL.cons (Wk.refl _) (WkL.cons (Wk.fsl rfl (.inl rfl) (by simp) (.inr rfl)) WkL.nil))))
theorem wk_kids {t : Int} {l : List IV} {b : Bool} : Wk (.tup [.agg [.int .i64 t, .fsl (some true) true 0 [], .fsl none false 3 l], .bool b]) (.tup [.agg [.int .i64 t, .fsl none false 1 [], .fsl none false 3 l], .bool b]) :=
  wk_tup (Wk.agg (WkL.cons (Wk.refl _) (WkL.cons nil_fsl (WkL.cons (Wk.refl _) WkL.nil))))
theorem tag_test : ∀ x : Fin 256, (bif bif !gMany ((x.val : Nat) : Int) then bif decide (((x.val : Nat) : Int) < 1) then true else decide (((x.val : Nat) : Int) > 5) else false then ((x.val : Nat) : Int) != 12 else false) = !tagB x.val := by decide +kernel
/-- What is to be shown of a run: what it answers, and what is left of the blocks. -/
def Ends (d : Nat) (ys : List IV) (T : List Blk) (v : IV) (T1 : List Blk) : Prop := ∃ ls, LoopsOK Try.prog hint (acall Try.prog hint (ovrOf (vT' d))) ls ∧
  ∃ v0 T2 v1 fr, Bd (vT' d) ls 37 ys T = some (v0, T2) ∧ frz T2 v0 = some (v1, fr) ∧ (List.range T.length).map (renB false T.length (idx (List.range T.length)) (shut T2 fr)) = T1 ∧ Wk v1 v
abbrev vTup (r : Vr) : IV := .tup [.agg [.int .i64 r.t, .fsl none false 1 r.bs, .fsl none false 3 r.ks], .bool r.ok]
abbrev vBox (nb : Option Bool) (cb : Bool) (b : List UInt8) (r : Vr) : List Blk := rdB nb cb 1 (u8s b) r.a r.k r.fa r.fc
theorem value_ends {d : Nat} {nb : Option Bool} {cb : Bool} {b : List UInt8} {e l a k : Nat} (h1 : b.length ≤ 65535) (h2 : a ≤ b.length) (h3 : e ≤ b.length) (h4 : k ≤ 4096) (h5 : l < d + 1) (h6 : l ≤ 1000000) :
    Ends d [.ptr 0 0, .int .i64 (e : Int), .int .i64 (l : Int)] (rdB nb cb 1 (u8s b) a k 0 0) (vTup (vOf (vF b l e a k))) (vBox nb cb b (vOf (vF b l e a k))) := by
  have hno : LoopsOK Try.prog hint (acall Try.prog hint (ovrOf (vT' d))) (ltab [(37, 16380, noL)]) := ltab_cons (by kernel_rfl) (fun p s e s' h => by cases h) ltab_nil
  have ht := v_leaf (cV d) gV cSz gSz gMany cCl cFt gFt cKs gRis nb cb 1 (u8s b) a k e l
  by_cases i1 : a < b.length
  case neg =>
    have hr : vF b l e a k = ⟨false, z0, a, k, b.length, 72⟩ := by cases l <;> (unfold vF; rw [dif_neg i1])
    rw [hr]
    rw [u8s_len] at ht
    exact ⟨_, hno, _, _, _, [], ht.trans (bif_step (decide_eq_true (by omega)) rfl), rfl, rfl, wk_zero⟩
  have hx := b[a].toNat_lt
  have e1 : IntKind.i64.wrap (intOf (nthD (nthD (u8s b) (a : Int).toNat).cells 0)) = (b[a].toNat : Int) := by
    rw [nthD_u8 i1]
    have w3 : intOf (nthD (IV.int .u8 (b[a].toNat : Int)).cells 0) = (b[a].toNat : Int) := Eq.trans rfl rfl
    rw [w3, wrap_i64]; omega
  have e2 : isOf (LT.i IntKind.u8) (nthD (nthD (u8s b) (a : Int).toNat).cells 0) = true := by rw [nthD_u8 i1]; rfl
  have e3 : IntKind.i64.wrap ((a : Int) + 1) = ((a + 1 : Nat) : Int) := by rw [wrap_i64]; omega
  have e4 : IntKind.i64.wrap ((k : Int) + 1) = ((k + 1 : Nat) : Int) := by rw [wrap_i64]; omega
  have tg := tag_test ⟨b[a].toNat, hx⟩
  simp only at tg
  rw [e1, e3, e4, u8s_len, gSz_eq, tg] at ht
  replace ht := fun r q => ht.trans (bif_stepF (r := r) (decide_eq_false (by omega)) (bif_step (decide_eq_true ⟨rfl, by omega, by omega⟩) (bif_step e2 q)))
  by_cases i2 : tagB b[a].toNat = true
  case neg =>
    have hr : vF b l e a k = ⟨false, z0, a, k, a, 70⟩ := by cases l <;> (unfold vF; rw [dif_pos i1, if_neg i2])
    rw [hr]
    exact ⟨_, hno, _, _, _, [], ht _ (bif_step (by simpa using i2) rfl), rfl, rfl, wk_zero⟩
  replace ht := fun r q => ht r (bif_stepF (by rw [i2]; rfl) q)
  cases l with
  | zero =>
    have hr : vF b 0 e a k = ⟨false, z0, a, k, a, 75⟩ := by unfold vF; rw [dif_pos i1, if_pos i2]
    rw [hr]
    exact ⟨_, hno, _, _, _, [], ht _ (bif_step rfl rfl), rfl, rfl, wk_zero⟩
  | succ m =>
  replace ht := fun r q => ht r (bif_stepF (beq_eq_false_iff_ne.2 (by omega)) q)
  by_cases i3 : k = 4096
  · have hr : vF b (m + 1) e a k = ⟨false, z0, a, k, a, 2⟩ := by unfold vF; rw [dif_pos i1, if_pos i2, if_pos i3]
    rw [hr]
    exact ⟨_, hno, _, _, _, [], ht _ (bif_step (by rw [i3]; rfl) rfl), rfl, rfl, wk_zero⟩
  have hr : vF b (m + 1) e a k = vBody (vF b m) b b[a].toNat a (szF b e (a + 1)) k := by
    conv => lhs; unfold vF
    rw [dif_pos i1, if_pos i2, if_neg i3]
  rw [hr]
  have hcs : (bif decide ((0 : Int) = (0 : Int) ∧ (0 : Int) = (0 : Int)) then cSz 1 (u8s b) ((a + 1 : Nat) : Int) e else false) = true := by
    rw [decide_eq_true ⟨rfl, rfl⟩, cSz_of h1 (by omega) h3]; rfl
  have ik : ((k : Int) == 4096) = false := beq_eq_false_iff_ne.2 (by omega)
  replace ht := fun r q => ht r (bif_stepF ik (bif_step hcs q))
  unfold vBody
  by_cases i4 : (szF b e (a + 1)).ok = true
  case neg =>
    rw [if_neg i4]
    exact ⟨_, hno, _, _, _, [], ht _ (bif_step (by simpa using i4) rfl), rfl, rfl, wk_zero⟩
  rw [if_pos i4]
  obtain ⟨N, p, s1, s2, s3, s4, s5, s6⟩ := szF_ok i4
  have w5 : IntKind.i64.wrap (((a + 1 + p : Nat) : Int) + (N : Int)) = ((a + 1 + p + N : Nat) : Int) := by rw [wrap_i64]; omega
  rw [s1]
  by_cases i5 : gMany (b[a].toNat : Int) = true
  case neg =>
    rw [if_neg i5]
    rw [s1] at ht
    dsimp only at ht ⊢
    rw [w5] at ht
    have hcut : List.take (((a + 1 + p + N : Nat) : Int).toNat - ((a + 1 + p : Nat) : Int).toNat) (List.drop ((a + 1 + p : Nat) : Int).toNat (u8s b)) = u8s (cutB b (a + 1 + p) N) := by
      rw [Int.toNat_natCast, Int.toNat_natCast, Nat.add_sub_cancel_left]
      simp [u8s, cutB, List.map_drop, List.map_take]
    rw [hcut] at ht
    have hcl : (cutB b (a + 1 + p) N).length = N := cut_len (by omega)
    have hcc : cCl 1 (u8s (cutB b (a + 1 + p) N)) = true := by unfold cCl; rw [u8s_len]; exact decide_eq_true ⟨.inl rfl, by omega⟩
    have hcf : cFt (b[a].toNat : Int) 1 (u8s (cutB b (a + 1 + p) N)) = true := by unfold cFt cIx; rw [u8s_len, okB_u8s, decide_eq_true ⟨.inl rfl, by omega⟩]; rfl
    have hgf : gFt (b[a].toNat : Int) (u8s (cutB b (a + 1 + p) N)) = fitsB (b[a].toNat : Int) (cutB b (a + 1 + p) N) := by unfold gFt; rw [toBytes_u8s]
    rw [hgf] at ht
    have i5' : gMany (b[a].toNat : Int) = false := by simpa using i5
    replace ht := fun r q => ht r (bif_stepF rfl (bif_step (by rw [i5']; rfl) (bif_step (decide_eq_true (by omega)) (bif_step (decide_eq_true (.inl rfl)) (bif_step hcc (bif_step hcf q))))))
    unfold vLeaf
    dsimp only
    by_cases i6 : fitsB (b[a].toNat : Int) (cutB b (a + 1 + p) N) = true
    · rw [if_pos i6]
      exact ⟨_, hno, _, _, _, [], ht _ (bif_stepF (by rw [i6]; rfl) rfl), rfl, rfl, wk_leaf⟩
    · rw [if_neg i6]
      exact ⟨_, hno, _, _, _, [], ht _ (bif_step (by simpa using i6) rfl), rfl, rfl, wk_zero⟩
  rw [if_pos i5]
  clear ht
  obtain ⟨q1, q2⟩ := vl_runs (d := d) (m := m) (nb := nb) (cb := cb) (b := b) (stop := a + 1 + p + N) (bg := a) (t := (b[a].toNat : Int)) h1 (by omega) (by omega) (by omega) N [] (a + 1 + p) (k + 1) (by omega) (by omega) (by omega) (Nat.zero_le _)
  unfold vMany
  dsimp only
  generalize hR : vLoop (vF b m (a + 1 + p + N)) (a + 1 + p + N) N [] (a + 1 + p) (k + 1) = R at *
  unfold vEnd
  cases hok : R.ok
  · have ht := v_no (cV d) gV cSz gSz gMany cCl cFt gFt cKs gRis nb cb 1 (u8s b) a k e ((m + 1 : Nat) : Int) R.a R.k R.fa R.fc (b[a].toNat : Int) (R.ks.map ndIV)
    unfold stE gsE q0E at ht
    rw [e1, e3, e4, u8s_len, gSz_eq, tg, s1] at ht
    dsimp only at ht
    rw [w5] at ht
    rw [if_neg (by simp)]
    refine ⟨_, ltab_cons (by kernel_rfl) (loopF_ok fun vs bx e vs' bx' hm => ?_) ltab_nil, _, _, _, [], ht.trans (bif_stepF (decide_eq_false (by omega)) (bif_step (decide_eq_true ⟨rfl, by omega, by omega⟩) (bif_step e2 (bif_stepF (by rw [i2]; rfl) (bif_stepF (beq_eq_false_iff_ne.2 (by omega)) (bif_stepF ik (bif_step hcs (bif_stepF rfl (bif_stepF (by rw [i5]; rfl) (bif_step sameS_t rfl)))))))))), rfl, rfl, wk_zero⟩
    obtain ⟨rfl, rfl, rfl, rfl, rfl⟩ := oneF_mem hm
    exact q2 hok
  · have ht := v_ok (cV d) gV cSz gSz gMany cCl cFt gFt cKs gRis nb cb 1 (u8s b) a k e ((m + 1 : Nat) : Int) R.a R.k (b[a].toNat : Int) (R.ks.map ndIV)
    unfold stE gsE q0E at ht
    rw [e1, e3, e4, u8s_len, gSz_eq, tg, s1] at ht
    dsimp only at ht
    rw [w5] at ht
    rw [if_pos rfl]
    replace ht := fun r q => ht.trans (bif_stepF (r := r) (decide_eq_false (by omega)) (bif_step (decide_eq_true ⟨rfl, by omega, by omega⟩) (bif_step e2 (bif_stepF (by rw [i2]; rfl) (bif_stepF (beq_eq_false_iff_ne.2 (by omega)) (bif_stepF ik (bif_step hcs (bif_stepF rfl (bif_stepF (by rw [i5]; rfl) (bif_step sameS_t q))))))))))
    have hls : LoopsOK Try.prog hint (acall Try.prog hint (ovrOf (vT' d))) (ltab [(37, 16380, LF 37 1 (oneF (vlV ((m + 1 : Nat) : Int) a ((a + 1 + p + N : Nat) : Int)) (vlB nb cb 1 (u8s b) ((a + 1 + p : Nat) : Int) ((k + 1 : Nat) : Int) ((0 : Nat) : Int) 0 (b[a].toNat : Int) []) (.exit 1) (vlV ((m + 1 : Nat) : Int) a ((a + 1 + p + N : Nat) : Int)) (vlB nb cb 1 (u8s b) R.a R.k 0 0 (b[a].toNat : Int) (R.ks.map ndIV))))]) := by
      refine ltab_cons (by kernel_rfl) (loopF_ok fun vs bx e vs' bx' hm => ?_) ltab_nil
      obtain ⟨rfl, rfl, rfl, rfl, rfl⟩ := oneF_mem hm
      exact q1 hok
    have hnd : ∀ y : Nd, ndOf (ndIV y) = y := fun y => (nd_iv y).1
    have hmap : (R.ks.map ndIV).map ndOf = R.ks := by rw [List.map_map]; exact (List.map_congr_left fun y _ => hnd y).trans (List.map_id _)
    obtain ⟨ks, g⟩ := vLoop_ok (b := b) (l := m) (stop := a + 1 + p + N) (val := vF b m (a + 1 + p + N)) (fun a' k' ha ho hk' => vF_ok (by omega) m (a + 1 + p + N) a' k' (by omega) hk' ho) N [] (a + 1 + p) (k + 1) (by omega) (by omega) (by omega) (by rw [hR]; exact hok)
    rw [hR] at g
    have hks : R.ks = ks := by rw [g.eq]; rfl
    have gs := g.sz
    have gn := g.num
    have hco : cKs 3 (R.ks.map ndIV) = true := by
      unfold cKs
      rw [List.length_map, hks]
      have hlen : ks.length ≤ nums ks := by
        clear g hks gs gn
        induction ks with
        | nil => exact Nat.zero_le _
        | cons y ys ih => rw [nums_cons, List.length_cons]; have := num_pos y; omega
      rw [decide_eq_true ⟨.inl rfl, by omega⟩, Bool.true_and, List.all_eq_true]
      intro x hx
      obtain ⟨y, hy, rfl⟩ := List.mem_map.1 hx
      unfold cN
      rw [(nd_iv y).1, (nd_iv y).2]
      have := szs_mem hy
      exact decide_eq_true (by omega)
    have hgo : gRis (R.ks.map ndIV) = adjB leB R.ks := by unfold gRis; rw [hmap]
    rw [hgo] at ht
    by_cases i7 : (b[a].toNat : Int) = 49
    · have q7 : (((b[a].toNat : Int) == 49) == true) = true := by rw [i7]; rfl
      cases i8 : adjB leB R.ks
      · rw [if_pos ⟨i7, rfl⟩]
        exact ⟨_, hls, _, _, _, [], ht _ (bif_step q7 (bif_step hco (bif_step (by rw [i8]; rfl) rfl))), rfl, rfl, wk_zero⟩
      · rw [if_neg (by simp)]
        exact ⟨_, hls, _, _, _, [1], ht _ (bif_step q7 (bif_step hco (bif_stepF (by rw [i8]; rfl) rfl))), rfl, rfl, wk_kids⟩
    · have q7 : (((b[a].toNat : Int) == 49) == true) = false := by rw [beq_eq_false_iff_ne.2 i7]; rfl
      rw [if_neg (fun h => i7 h.1)]
      exact ⟨_, hls, _, _, _, [1], ht _ (bif_stepF q7 rfl), rfl, rfl, wk_kids⟩
theorem value_d : ∀ d : Nat, d ≤ 1000000 → Known Try.prog hint 37 (valP (cV d) gV)
  | 0, _ => known_each fun xs T v T1 h => by
    exfalso
    unfold valP at h
    split at h
    · simp only [List.mem_cons, List.not_mem_nil, or_false, Prod.mk.injEq, Bool.true_eq] at h
      have h2 := h.1
      unfold cV at h2
      revert h2
      simp only [Bool.cond_eq_ite, Bool.if_false_right, Bool.and_eq_true, decide_eq_true_eq]
      omega
    · cases h
  | d + 1, hd => by
    have ih := value_d d (by omega)
    refine known_rfrzT fits fun us T v T1 h => ?_
    unfold valP at h
    split at h
    case h_2 => cases h
    rename_i e0 l0 nb cb z bs a0 k0 fa fc
    simp only [List.mem_cons, List.not_mem_nil, or_false, Prod.mk.injEq, Bool.true_eq] at h
    obtain ⟨h0, rfl, rfl⟩ := h
    have hf : fa = 0 ∧ fc = 0 := by
      by_cases hf : fa = 0 ∧ fc = 0
      · exact hf
      · rw [decide_eq_false hf] at h0; cases h0
    rw [decide_eq_true hf, cond_true] at h0
    obtain ⟨rfl, rfl⟩ := hf
    unfold cV at h0
    rw [Bool.and_eq_true, decide_eq_true_eq] at h0
    obtain ⟨⟨rfl, h1, ⟨h2, h3⟩, ⟨h4, h5⟩, ⟨h6, h7⟩, h8, h9⟩, ho⟩ := h0
    obtain ⟨b, rfl⟩ : ∃ b, bs = u8s b := ⟨_, okB_eq ho⟩
    obtain ⟨a, rfl⟩ : ∃ a : Nat, a0 = a := ⟨a0.toNat, by omega⟩
    obtain ⟨e, rfl⟩ : ∃ e : Nat, e0 = e := ⟨e0.toNat, by omega⟩
    obtain ⟨k, rfl⟩ : ∃ k : Nat, k0 = k := ⟨k0.toNat, by omega⟩
    obtain ⟨l, rfl⟩ : ∃ l : Nat, l0 = l := ⟨l0.toNat, by omega⟩
    rw [u8s_len] at h1 h3 h5
    rw [gV_eq]
    refine ⟨[_], by simp, Splits.self _, fun ys hy => ?_⟩
    rw [List.mem_singleton] at hy
    subst hy
    obtain ⟨ls, hls, v0, T2, v1, fr, e1, e2, e3, e4⟩ := value_ends (d := d) (nb := nb) (cb := cb) (b := b) (e := e) (l := l) (a := a) (k := k) h1 (by omega) (by omega) (by omega) (by omega) (by omega)
    exact ⟨noGd_of rfl, vT' d, ls, vT_ok ih, hls, 30, v0, T2, v1, fr, e1, e2, e3, e4⟩
end
end Go.Proofs.Ytolpgbgmldpneaa
