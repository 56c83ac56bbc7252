/- Values back as numbers with a sign. It bears no condition. -/
import Derived.Test.YtolpgbgmldpneaaDuD
namespace Go.Proofs.Ytolpgbgmldpneaa
open Go Go.Im
set_option linter.unusedVariables false
set_option linter.unusedSimpArgs false
set_option maxRecDepth 20000
noncomputable section

/-- The number, with a sign, that bytes are. -/
def sg (neg : Bool) (l : List UInt8) : Int := (numL l : Int) - bif neg then ((256 ^ l.length : Nat) : Int) else 0
def negB (l : List UInt8) : Bool := decide (128 ≤ (l.headD 0).toNat)
def sgv (l : List UInt8) : Int := sg (negB l) l
theorem sg_snoc (neg : Bool) (l : List UInt8) (b : UInt8) : sg neg (l ++ [b]) = sg neg l * 256 + b.toNat := by
  unfold sg
  rw [numL_snoc, List.length_append, List.length_singleton, Nat.pow_succ]
  cases neg
  · simp only [cond_false]; omega
  · simp only [cond_true]; omega
theorem sg_bound {l : List UInt8} {n : Nat} (hl : l.length = n + 1) : -((128 * 256 ^ n : Nat) : Int) ≤ sg (negB l) l ∧ sg (negB l) l < ((128 * 256 ^ n : Nat) : Int) := by
  match l, hl with
  | b :: r, hl =>
    have hl : r.length = n := by simpa using hl
    have h1 := numL_lt r
    have h2 := b.toNat_lt
    unfold sg negB
    rw [num_cons, List.headD_cons, List.length_cons, hl, Nat.pow_succ]
    rw [hl] at h1
    have hm : ∀ a c : Nat, a ≤ c → a * 256 ^ n ≤ c * 256 ^ n := fun a c h => Nat.mul_le_mul_right _ h
    generalize hp : 256 ^ n = p at *
    by_cases h : 128 ≤ b.toNat
    · rw [decide_eq_true h, cond_true]
      have q1 := hm 128 b.toNat h
      have q2 := hm (b.toNat + 1) 256 (by omega)
      rw [Nat.add_mul] at q2
      generalize b.toNat * p = u at *
      omega
    · rw [decide_eq_false h, cond_false]
      have q2 := hm (b.toNat + 1) 128 (by omega)
      rw [Nat.add_mul] at q2
      generalize b.toNat * p = u at *
      omega
theorem or_sg {a : Int} {b : UInt8} (h1 : -36028797018963968 ≤ a) (h2 : a < 36028797018963968) : ibits BinOp.or .i64 (IntKind.i64.wrap (a * (2 : Int) ^ (8 : Nat))) (IntKind.i64.wrap (b.toNat : Int)) = a * 256 + b.toNat := by
  have hb := b.toNat_lt
  have w1 : IntKind.i64.wrap (a * (2 : Int) ^ (8 : Nat)) = a * 256 := by
    rw [show ((2 : Int) ^ (8 : Nat)) = 256 from rfl, wrap_i64]; omega
  have w2 : IntKind.i64.wrap (b.toNat : Int) = (b.toNat : Int) := by rw [wrap_i64]; omega
  rw [w1, w2]
  have e1 : (BitVec.ofInt IntKind.i64.bits (a * 256)).toNat = 2 ^ 8 * (a % 72057594037927936).toNat := by
    simp only [IntKind.bits, BitVec.toNat_ofInt]; omega
  have e2 : (BitVec.ofInt IntKind.i64.bits (b.toNat : Int)).toNat = b.toNat := by
    simp only [IntKind.bits, BitVec.toNat_ofInt]; omega
  simp only [ibits]
  rw [BitVec.toNat_or, e1, e2, ← Nat.two_pow_add_eq_or_of_lt (by omega : b.toNat < 2 ^ 8), wrap_i64]
  omega
theorem iof_runs {sp : FuncId → Option SpecF} {b0 : UInt8} {bs : List UInt8} (hb : bs.length ≤ 7) {n1 : Option Bool} {cl : Bool} : ∀ m i : Nat, i + m = bs.length →
    Runs Try.prog hint (acall Try.prog hint (ovrOf sp)) 0 (hint.kp 20) (loopAt Try.prog 20 250) (Sx 20 [.int .i64 (sg (negB [b0]) (b0 :: bs.take i)), .fsl n1 cl 1 (u8s bs), .int .i64 (bs.length : Int), .int .i64 (i : Int)] []) (.exit 0)
      (Sx 20 [.int .i64 (sg (negB [b0]) (b0 :: bs)), .fsl n1 cl 1 (u8s bs), .int .i64 (bs.length : Int), .int .i64 (bs.length : Int)] [])
  | 0, i, h => by
    obtain rfl : i = bs.length := by omega
    rw [List.take_length]
    have ht := iof_in sp (sg (negB [b0]) (b0 :: bs)) n1 n1 cl 1 (u8s bs) bs.length bs.length
    refine Runs.last (n := 30) (ls := fun _ _ => none) loops_none inner0 (by simp) (ht.trans (bif_stepF (decide_eq_false (by omega)) rfl))
  | m + 1, i, h => by
    have hi : i < bs.length := by omega
    have ih := iof_runs (sp := sp) (b0 := b0) hb (n1 := n1) (cl := cl) m (i + 1) (by omega)
    have ht := iof_in sp (sg (negB [b0]) (b0 :: bs.take i)) n1 n1 cl 1 (u8s bs) bs.length i
    rw [nthD_u8 hi, cellI, intI] at ht
    have hbd := sg_bound (l := b0 :: bs.take i) (n := i) (by rw [List.length_cons, List.length_take]; omega)
    have hp : 256 ^ i ≤ 256 ^ 6 := Nat.pow_le_pow_right (by omega) (by omega)
    have hnb : negB (b0 :: bs.take i) = negB [b0] := rfl
    rw [hnb] at hbd
    rw [or_sg (by omega) (by omega), ← sg_snoc, List.cons_append, List.take_append_getElem, wadd1 (by omega)] at ht
    exact Runs.step (n := 30) (ls := fun _ _ => none) loops_none inner0 (ht.trans (bif_step (decide_eq_true (by omega)) (bif_step (decide_eq_true ⟨rfl, by omega, by rw [u8s_len]; omega⟩) (bif_step isI rfl)))) ih
theorem riof_runs {sp : FuncId → Option SpecF} {neg : Bool} {bs : List UInt8} (hneg : bs ≠ [] ∧ neg = negB bs) (hb : bs.length ≤ 8) {t : Int} {n1 n2 : Option Bool} {c1 c2 : Bool} {z2 : Nat} {ks : List IV} : ∀ m i : Nat, i + m = bs.length →
    Runs Try.prog hint (acall Try.prog hint (ovrOf sp)) 0 (hint.kp 21) (loopAt Try.prog 21 506) (Sx 21 [.ptr 0 0, .int .i64 (sg neg (bs.take i)), .int .i64 (i : Int)] [.var false [.int .i64 t, .fsl n1 c1 1 (u8s bs), .fsl n2 c2 z2 ks]]) (.exit 0)
      (Sx 21 [.ptr 0 0, .int .i64 (sg neg bs), .int .i64 (bs.length : Int)] [.var false [.int .i64 t, .fsl n1 c1 1 (u8s bs), .fsl n2 c2 z2 ks]])
  | 0, i, h => by
    obtain rfl : i = bs.length := by omega
    rw [List.take_length]
    have ht := riof_in sp (sg neg bs) t n1 c1 1 (u8s bs) n2 c2 z2 ks bs.length
    rw [u8s_len] at ht
    refine Runs.last (n := 30) (ls := fun _ _ => none) loops_none inner0 (by simp) (ht.trans (bif_stepF (decide_eq_false (by omega)) rfl))
  | m + 1, i, h => by
    have hi : i < bs.length := by omega
    have ih := riof_runs (sp := sp) hneg hb (t := t) (n1 := n1) (n2 := n2) (c1 := c1) (c2 := c2) (z2 := z2) (ks := ks) m (i + 1) (by omega)
    have ht := riof_in sp (sg neg (bs.take i)) t n1 c1 1 (u8s bs) n2 c2 z2 ks i
    rw [u8s_len, nthD_u8 hi, cellI, intI] at ht
    have hx := bs[i].toNat_lt
    have hbd : -36028797018963968 ≤ sg neg (bs.take i) ∧ sg neg (bs.take i) < 36028797018963968 := by
      cases i with
      | zero =>
        rw [List.take_zero]
        cases neg <;> decide
      | succ i =>
        have := sg_bound (l := bs.take (i + 1)) (n := i) (by rw [List.length_take]; omega)
        have hp : 256 ^ i ≤ 256 ^ 6 := Nat.pow_le_pow_right (by omega) (by omega)
        have hnb : negB (bs.take (i + 1)) = neg := by
          rw [hneg.2]
          obtain ⟨x, r, rfl⟩ := List.exists_cons_of_ne_nil hneg.1
          rfl
        rw [hnb] at this
        omega
    have w1 : IntKind.i64.wrap (sg neg (bs.take i) * 256) = sg neg (bs.take i) * 256 := by rw [wrap_i64]; omega
    have w2 : IntKind.i64.wrap (bs[i].toNat : Int) = (bs[i].toNat : Int) := by rw [wrap_i64]; omega
    have w3 : IntKind.i64.wrap (sg neg (bs.take i) * 256 + (bs[i].toNat : Int)) = sg neg (bs.take i) * 256 + (bs[i].toNat : Int) := by rw [wrap_i64]; omega
    rw [w1, w2, w3, ← sg_snoc, List.take_append_getElem, wadd1 (by omega)] at ht
    exact Runs.step (n := 30) (ls := fun _ _ => none) loops_none inner0 (ht.trans (bif_step (decide_eq_true (by omega)) (bif_step (decide_eq_true ⟨rfl, by omega, by omega⟩) (bif_step isI rfl)))) ih
def iofP (c : IV → Bool) (gv ge : IV → Int) : SpecF := fun us T => match us, T with
  | [.agg [.int .i64 t, .fsl n1 c1 z1 bs, .fsl n2 c2 z2 ks]], [] => [(c (ndV t n1 c1 z1 bs n2 c2 z2 ks), .tup [.int .i64 (gv (ndV t n1 c1 z1 bs n2 c2 z2 ks)), .int .i64 (ge (ndV t n1 c1 z1 bs n2 c2 z2 ks))], [])]
  | _, _ => []
/-- A value that a function of one tag may be asked for. -/
def cTag (tg : Int) (cR : IV → Bool) (x : IV) : Bool := okNd x && decide ((ndOf x).bytes.length ≤ 140737488355320) && (!((ndOf x).tag == tg) || cR x)
def gIe (x : IV) : Int := bif (ndOf x).tag == 2 && gRight x then (bif decide (8 < (ndOf x).bytes.length) then 1 else 0) else 3
def gIv (x : IV) : Int := bif (ndOf x).tag == 2 && gRight x && !decide (8 < (ndOf x).bytes.length) then sgv (ndOf x).bytes else 0
theorem right2 {x : IV} (ht : (ndOf x).tag = 2) : gRight x = ((ndOf x).kids.isEmpty && fitsB 2 (ndOf x).bytes) := by
  unfold gRight
  cases hx : ndOf x with
  | mk t b ks =>
    rw [hx] at ht
    simp only [Nd.tag] at ht
    subst ht
    unfold Nd.rg
    simp only [Nd.kids, Nd.bytes]
    rw [show gMany 2 = false from rfl]
    rfl
theorem fits2_pos {b : List UInt8} (h : fitsB 2 b = true) : b ≠ [] := by
  rintro rfl
  cases h
theorem i8_sg (b : UInt8) : IntKind.i64.wrap (IntKind.i8.wrap (b.toNat : Int)) = sg (negB [b]) [b] := by
  have hb := b.toNat_lt
  have e : sg (negB [b]) [b] = (b.toNat : Int) - bif decide (128 ≤ b.toNat) then 256 else 0 := by
    show ((0 * 256 + b.toNat : Nat) : Int) - _ = _
    rw [Nat.zero_mul, Nat.zero_add]
    rfl
  rw [e, wrap_i8, wrap_i64]
  by_cases h : 128 ≤ b.toNat
  · rw [decide_eq_true h, cond_true]; omega
  · rw [decide_eq_false h, cond_false]; omega
theorem nd_openO {t : Int} {n1 : Option Bool} {c1 : Bool} {z1 : Nat} {bs : List IV} {n2 : Option Bool} {c2 : Bool} {z2 : Nat} {ks : List IV} (h : okNd (ndV t n1 c1 z1 bs n2 c2 z2 ks) = true) :
    ∃ N, ndOf (ndV t n1 c1 z1 bs n2 c2 z2 ks) = N ∧ t = N.tag ∧ bs = u8s N.bytes ∧ N.kids = ks.map ndOf ∧ ks.all okNd = true ∧ (z1 = 1 ∨ N.bytes = []) ∧ (z2 = 3 ∨ ks = []) := by
  obtain ⟨m1, d1, y1, m2, d2, y2, kk, e, h1, h2, h3, h4⟩ := okNd_iff h
  generalize hN : ndOf (ndV t n1 c1 z1 bs n2 c2 z2 ks) = N at *
  simp only [ndV, IV.agg.injEq, List.cons.injEq, IV.int.injEq, IV.fsl.injEq, true_and, and_true] at e
  obtain ⟨e1, ⟨e2, e3, e4, e5⟩, e6, e7, e8, e9⟩ := e
  subst e2 e3 e4 e6 e7 e8 e9
  exact ⟨N, rfl, e1, e5, h1, h2, h3, h4⟩
theorem tag2 (n : Int) : (n != 2) = !(n == 2) := rfl
theorem iof_known {cR : IV → Bool} (hR : Known Try.prog hint 14 (welP cR gRight)) : Known Try.prog hint 20 (iofP (cTag 2 cR) gIv gIe) := by
  refine known_any fits fun us T v T1 h => ?_
  unfold iofP at h
  split at h
  case h_2 => cases h
  rename_i t n1 c1 z1 bs n2 c2 z2 ks
  simp only [List.mem_cons, List.not_mem_nil, or_false, Prod.mk.injEq, Bool.true_eq, cTag, Bool.and_eq_true, decide_eq_true_eq] at h
  obtain ⟨⟨⟨ho, hlen⟩, hr⟩, rfl, rfl⟩ := h
  obtain ⟨N, hN, rfl, rfl, hk, hkk, hz1, hz2⟩ := nd_openO ho
  have e1 : gIv (ndV N.tag n1 c1 z1 (u8s N.bytes) n2 c2 z2 ks) = bif N.tag == 2 && gRight (ndV N.tag n1 c1 z1 (u8s N.bytes) n2 c2 z2 ks) && !decide (8 < N.bytes.length) then sgv N.bytes else 0 := by unfold gIv; rw [hN]
  have e2 : gIe (ndV N.tag n1 c1 z1 (u8s N.bytes) n2 c2 z2 ks) = bif N.tag == 2 && gRight (ndV N.tag n1 c1 z1 (u8s N.bytes) n2 c2 z2 ks) then (bif decide (8 < N.bytes.length) then 1 else 0) else 3 := by unfold gIe; rw [hN]
  rw [e1, e2]
  rw [hN] at hr hlen
  have hno : LoopsOK Try.prog hint (acall Try.prog hint (ovrOf (tab [(14, welP cR gRight)]))) (ltab [(20, 250, noL)]) := ltab_no (by kernel_rfl) ltab_nil
  have htab : ∀ f F, tab [(14, welP cR gRight)] f = some F → Known Try.prog hint f F := tab_cons hR tab_nil
  cases ht : N.tag == 2
  · refine ⟨_, _, htab, hno, 30, (iof_no cR gRight N.tag n1 c1 z1 (u8s N.bytes) n2 c2 z2 ks).trans (bif_stepF (by rw [tag2, ht]; rfl) rfl)⟩
  have ht2 : N.tag = 2 := eq_of_beq ht
  rw [ht, Bool.not_true, Bool.false_or] at hr
  cases hg : gRight (ndV N.tag n1 c1 z1 (u8s N.bytes) n2 c2 z2 ks)
  · refine ⟨_, _, htab, hno, 30, (iof_no cR gRight N.tag n1 c1 z1 (u8s N.bytes) n2 c2 z2 ks).trans (bif_step (by rw [tag2, ht]; rfl) (bif_step hr (bif_step (by rw [hg]; rfl) rfl)))⟩
  by_cases h8 : 8 < N.bytes.length
  · rw [decide_eq_true h8]
    refine ⟨_, _, htab, hno, 30, (iof_no cR gRight N.tag n1 c1 z1 (u8s N.bytes) n2 c2 z2 ks).trans (bif_step (by rw [tag2, ht]; rfl) (bif_step hr (bif_stepF (by rw [hg]; rfl) (bif_step (decide_eq_true (by rw [u8s_len]; omega)) rfl))))⟩
  rw [decide_eq_false h8]
  have hfit := right2 (x := ndV N.tag n1 c1 z1 (u8s N.bytes) n2 c2 z2 ks) (by rw [hN]; exact ht2)
  rw [hg, hN] at hfit
  have hfit := fits2_pos ((Bool.and_eq_true _ _).mp hfit.symm).2
  have hz : z1 = 1 := hz1.resolve_right hfit
  obtain ⟨b0, r, hb⟩ := List.exists_cons_of_ne_nil hfit
  subst hz
  rw [hb] at h8 hg hr ⊢
  rw [u8s_cons] at hg hr ⊢
  rw [List.length_cons] at h8
  have htk : List.take (((IV.int .u8 (b0.toNat : Int) :: u8s r).length : Int).toNat - 1) (u8s r) = u8s r := by
    rw [Int.toNat_natCast, List.length_cons, Nat.add_sub_cancel, List.take_length]
  have q := iof_runs (sp := tab [(14, welP cR gRight)]) (b0 := b0) (bs := r) (by omega) (n1 := n1) (cl := (c1 && (none : Option IV).isNone)) r.length 0 (by omega)
  rw [List.take_zero, ← i8_sg] at q
  have ht := iof_call (atB [.int .i64 (IntKind.i64.wrap (IntKind.i8.wrap (b0.toNat : Int))), .fsl n1 (c1 && (none : Option IV).isNone) 1 (u8s r), .int .i64 (r.length : Int), .int .i64 0] []) cR gRight (sg (negB [b0]) (b0 :: r)) (b0.toNat : Int) (u8s r) N.tag n1 c1 1 n2 c2 z2 ks
  rw [htk, u8s_len] at ht
  refine ⟨_, _, htab, ltab_run (by kernel_rfl) q ltab_nil (by kernel_rfl), 30, ht.trans ?_⟩
  rw [hg]
  have hl : (IV.int .u8 (b0.toNat : Int) :: u8s r).length = r.length + 1 := by rw [List.length_cons, u8s_len]
  refine bif_step (by rw [ht2]; rfl) (bif_step hr (bif_stepF rfl (bif_stepF (decide_eq_false (by rw [hl]; omega)) (bif_step (decide_eq_true ⟨rfl, by omega, by rw [hl]; omega⟩) (bif_step (decide_eq_true ⟨by omega, by rw [hl]; omega, by omega⟩) (bif_step (decide_eq_true (.inl rfl)) (bif_step (at_eq ?_ rfl) ?_)))))))
  · rw [show List.drop 1 (IV.int .u8 (b0.toNat : Int) :: u8s r) = u8s r from rfl, htk, u8s_len]
    exact Eq.refl _
  · rfl
theorem riof_known {cR : IV → Bool} (hR : Known Try.prog hint 15 (welP cR gRight)) : Known Try.prog hint 21 (iofP (cTag 2 cR) gIv gIe) := by
  refine known_any fits fun us T v T1 h => ?_
  unfold iofP at h
  split at h
  case h_2 => cases h
  rename_i t n1 c1 z1 bs n2 c2 z2 ks
  simp only [List.mem_cons, List.not_mem_nil, or_false, Prod.mk.injEq, Bool.true_eq, cTag, Bool.and_eq_true, decide_eq_true_eq] at h
  obtain ⟨⟨⟨ho, hlen⟩, hr⟩, rfl, rfl⟩ := h
  obtain ⟨N, hN, rfl, rfl, hk, hkk, hz1, hz2⟩ := nd_openO ho
  have e1 : gIv (ndV N.tag n1 c1 z1 (u8s N.bytes) n2 c2 z2 ks) = bif N.tag == 2 && gRight (ndV N.tag n1 c1 z1 (u8s N.bytes) n2 c2 z2 ks) && !decide (8 < N.bytes.length) then sgv N.bytes else 0 := by unfold gIv; rw [hN]
  have e2 : gIe (ndV N.tag n1 c1 z1 (u8s N.bytes) n2 c2 z2 ks) = bif N.tag == 2 && gRight (ndV N.tag n1 c1 z1 (u8s N.bytes) n2 c2 z2 ks) then (bif decide (8 < N.bytes.length) then 1 else 0) else 3 := by unfold gIe; rw [hN]
  rw [e1, e2]
  rw [hN] at hr hlen
  have hno : LoopsOK Try.prog hint (acall Try.prog hint (ovrOf (tab [(15, welP cR gRight)]))) (ltab [(21, 506, noL)]) := ltab_no (by kernel_rfl) ltab_nil
  have htab : ∀ f F, tab [(15, welP cR gRight)] f = some F → Known Try.prog hint f F := tab_cons hR tab_nil
  cases ht : N.tag == 2
  · refine ⟨_, _, htab, hno, 30, (riof_no cR gRight N.tag n1 c1 z1 (u8s N.bytes) n2 c2 z2 ks).trans (bif_stepF (by rw [tag2, ht]; rfl) rfl)⟩
  have ht2 : N.tag = 2 := eq_of_beq ht
  rw [ht, Bool.not_true, Bool.false_or] at hr
  cases hg : gRight (ndV N.tag n1 c1 z1 (u8s N.bytes) n2 c2 z2 ks)
  · refine ⟨_, _, htab, hno, 30, (riof_no cR gRight N.tag n1 c1 z1 (u8s N.bytes) n2 c2 z2 ks).trans (bif_step (by rw [tag2, ht]; rfl) (bif_step hr (bif_step (by rw [hg]; rfl) rfl)))⟩
  by_cases h8 : 8 < N.bytes.length
  · rw [decide_eq_true h8]
    refine ⟨_, _, htab, hno, 30, (riof_no cR gRight N.tag n1 c1 z1 (u8s N.bytes) n2 c2 z2 ks).trans (bif_step (by rw [tag2, ht]; rfl) (bif_step hr (bif_stepF (by rw [hg]; rfl) (bif_step (decide_eq_true (by rw [u8s_len]; omega)) rfl))))⟩
  rw [decide_eq_false h8]
  have hfit := right2 (x := ndV N.tag n1 c1 z1 (u8s N.bytes) n2 c2 z2 ks) (by rw [hN]; exact ht2)
  rw [hg, hN] at hfit
  have hfit := fits2_pos ((Bool.and_eq_true _ _).mp hfit.symm).2
  have hz : z1 = 1 := hz1.resolve_right hfit
  obtain ⟨b0, r, hb⟩ := List.exists_cons_of_ne_nil hfit
  subst hz
  have hb0 := b0.toNat_lt
  have hnb : negB (b0 :: r) = decide ((b0.toNat : Int) > 127) := by unfold negB; rw [List.headD_cons]; exact decide_eq_decide.2 ⟨fun h => by omega, fun h => by omega⟩
  rw [hb] at h8 hg hr ⊢
  have q := riof_runs (sp := tab [(15, welP cR gRight)]) (neg := negB (b0 :: r)) (bs := b0 :: r) ⟨by simp, rfl⟩ (by omega) (t := N.tag) (n1 := n1) (n2 := n2) (c1 := c1) (c2 := c2) (z2 := z2) (ks := ks) (b0 :: r).length 0 (by omega)
  rw [List.take_zero, u8s_cons] at q
  rw [u8s_cons] at hg hr ⊢
  rw [List.length_cons] at h8 q
  have hl : (IV.int .u8 (b0.toNat : Int) :: u8s r).length = r.length + 1 := by rw [List.length_cons, u8s_len]
  have ht := riof_call (atB [.ptr 0 0, .int .i64 (sg (negB (b0 :: r)) []), .int .i64 0] [.var false [.int .i64 N.tag, .fsl n1 c1 1 (.int .u8 (b0.toNat : Int) :: u8s r), .fsl n2 c2 z2 ks]]) cR gRight (sg (negB (b0 :: r)) (b0 :: r)) (b0.toNat : Int) (u8s r) N.tag n1 c1 1 n2 c2 z2 ks
  rw [show ((IV.int .u8 (b0.toNat : Int) :: u8s r).length : Int) = ((r.length + 1 : Nat) : Int) by rw [hl]] at ht
  refine ⟨_, _, htab, ltab_run (by kernel_rfl) q ltab_nil (by kernel_rfl), 30, ht.trans ?_⟩
  rw [hg]
  refine bif_step (by rw [ht2]; rfl) (bif_step hr (bif_stepF rfl (bif_stepF (decide_eq_false (by omega)) (bif_step (decide_eq_true ⟨rfl, by omega, by omega⟩) ?_))))
  rw [intI]
  cases hh : decide ((b0.toNat : Int) > 127)
  · refine bif_stepF rfl (bif_step (at_eq ?_ rfl) rfl)
    rw [hnb, hh]; rfl
  · refine bif_step rfl (bif_step (at_eq ?_ rfl) rfl)
    rw [hnb, hh]; rfl
end
end Go.Proofs.Ytolpgbgmldpneaa
