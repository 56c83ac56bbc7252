/- Values are read: a length is known. It bears no condition. -/
import Derived.Test.YtolpgbgmldpneaaDtB
namespace Go.Proofs.Ytolpgbgmldpneaa
open Go Go.Im
set_option linter.unusedVariables false
set_option linter.unusedSimpArgs false
set_option maxRecDepth 20000
noncomputable section

theorem gcF_ok {call : Nat → CallF} {f pos l p0 : Nat} {vs0 : List IV} {bx0 : List Blk} {e : Ex} {s1 : St} (hl : ∃ b, itemAt Try.prog f (labKey pos l) = .lab l b)
    (h : Goes Try.prog hint call p0 (hint.kp f) l (loopAt Try.prog f (labKey pos l)) (stAt Try.prog hint f vs0 bx0) e s1) : LoopOK Try.prog hint call (itOf Try.prog hint call) (hint.kp f) (itemAt Try.prog f (labKey pos l)) (gcF f p0 vs0 bx0 e s1) := by
  intro p s e' s' hm
  unfold gcF at hm
  split at hm
  · rename_i vs hb hg
    simp only [Bool.and_eq_true] at hb
    have hp := Nat.eq_of_beq_eq_true hb.1
    have hlen := Nat.eq_of_beq_eq_true hb.2
    subst hp
    simp only [List.mem_cons, List.not_mem_nil, or_false, Prod.mk.injEq, Bool.true_eq, decide_eq_true_eq] at hm
    obtain ⟨⟨rfl, rfl⟩, rfl, rfl⟩ := hm
    have hs : s = stAt Try.prog hint f vs s.bx := by
      obtain ⟨tm, bx⟩ := s
      simp only [stAt, St.mk.injEq, and_true]
      rw [← hlen]
      exact (spread_gather tm (hint.kp f).ks 0 vs hg).symm
    rw [hs]
    obtain ⟨b, hb⟩ := hl
    unfold loopAt at h
    rw [hb] at h ⊢
    exact h
  · cases hm
theorem item_lab : itemAt Try.prog 51 (labKey 3 1) = .lab 1 (loopAt Try.prog 51 (labKey 3 1)) := by kernel_rfl
def szL (nb : Option Bool) (cb : Bool) (b : List UInt8) (c : Int) (r : Szr) : Option (IV × List Blk) := some (.tup [.int .i64 r.n, .bool r.ok], rdB nb cb 1 (u8s b) r.a c r.fa r.fc)
theorem szD_tail {α : Type} {L e bg n a : Nat} (he : e ≤ 100000000) (hL : L ≤ 100000000) (ha : a ≤ 200000000) (lf : Szr → α) :
    (bif decide ((n : Int) > IntKind.i64.wrap ((e : Int) - (a : Int))) == true then
      bif bif true then decide ((e : Int) < (L : Int)) else false then lf ⟨false, 0, a, bg, 71⟩ else
      bif decide ((n : Int) > IntKind.i64.wrap ((L : Int) - (a : Int))) then lf ⟨false, 0, a, L, 72⟩ else bif decide ((n : Int) > IntKind.i64.wrap ((e : Int) - (a : Int))) then lf ⟨false, 0, a, bg, 71⟩ else lf ⟨true, n, a, 0, 0⟩
     else bif decide ((n : Int) > IntKind.i64.wrap ((L : Int) - (a : Int))) then lf ⟨false, 0, a, L, 72⟩ else bif decide ((n : Int) > IntKind.i64.wrap ((e : Int) - (a : Int))) then lf ⟨false, 0, a, bg, 71⟩ else lf ⟨true, n, a, 0, 0⟩) = lf (szD L e bg n a) := by
  rw [gt_sub (by omega) ha, gt_sub (by omega) ha]
  unfold szD
  by_cases d1 : n + a > e <;> by_cases d2 : e < L <;> by_cases d3 : n + a > L <;> simp [d1, d2, d3]
def szP (c : Nat → List IV → Int → Int → Bool) (g : List IV → Int → Int → Szr) : SpecF := fun us T => match us, T with
  | [.ptr 0 0, .int .i64 e], [.var false [.fsl nb cb z bs, .int .i64 a, .int .i64 k, .int .i64 fa, .int .i64 fc]] => [(bif decide (fa = 0 ∧ fc = 0) then c z bs a e else false, .tup [.int .i64 (g bs a e).n, .bool (g bs a e).ok], rdB nb cb z bs (g bs a e).a k (g bs a e).fa (g bs a e).fc)]
  | _, _ => []
def cSz (z : Nat) (bs : List IV) (a e : Int) : Bool := decide (z = 1 ∧ bs.length ≤ 100000000 ∧ 0 ≤ a ∧ a ≤ bs.length ∧ 0 ≤ e ∧ e ≤ bs.length) && okB bs
def gSz (bs : List IV) (a e : Int) : Szr := szF (toBytes bs) e.toNat a.toNat
theorem size_known : Known Try.prog hint 51 (szP cSz gSz) := known_alt fits fun us T v T1 h => by
  unfold szP at h
  split at h
  case h_2 => cases h
  rename_i e0 nb cb z bs a0 k fa fc
  simp only [List.mem_cons, List.not_mem_nil, or_false, Prod.mk.injEq, Bool.true_eq] at h
  obtain ⟨h0, rfl, rfl⟩ := h
  have hf : fa = 0 ∧ fc = 0 := by
    by_cases hf : fa = 0 ∧ fc = 0
    · exact hf
    · rw [decide_eq_false hf] at h0; cases h0
  rw [decide_eq_true hf, cond_true] at h0
  obtain ⟨rfl, rfl⟩ := hf
  unfold cSz at h0
  rw [Bool.and_eq_true, decide_eq_true_eq] at h0
  obtain ⟨⟨rfl, h1, h2, h3, h4, h5⟩, ho⟩ := h0
  obtain ⟨b, rfl⟩ : ∃ b, bs = u8s b := ⟨_, okB_eq ho⟩
  obtain ⟨a, rfl⟩ : ∃ a : Nat, a0 = a := ⟨a0.toNat, by omega⟩
  obtain ⟨e, rfl⟩ : ∃ e : Nat, e0 = e := ⟨e0.toNat, by omega⟩
  rw [u8s_len] at h1 h3 h5
  have hg : gSz (u8s b) a e = szF b e a := by unfold gSz; rw [toBytes_u8s, Int.toNat_natCast, Int.toNat_natCast]
  rw [hg]
  refine ⟨[_], by simp, Splits.self _, fun ys hy => ?_⟩
  rw [List.mem_singleton] at hy
  subst hy
  refine ⟨noGd_of rfl, (fun _ => none), ?_⟩
  suffices hs : ∃ ls, LoopsOK Try.prog hint (acall Try.prog hint (ovrOf fun _ => none)) ls ∧ Cb (fun _ => none) ls 51 [.ptr 0 0, .int .i64 (e : Int)] (rdB nb cb 1 (u8s b) a k 0 0) = szL nb cb b k (szF b e a) by
    obtain ⟨ls, l1, l2⟩ := hs
    exact ⟨ls, (fun f F h => by cases h), l1, 30, _, Wk.refl _, l2⟩
  have hgc : ∀ {vs0 bx0 s1}, Goes Try.prog hint (acall Try.prog hint (ovrOf fun _ => none)) 1 (hint.kp 51) 1 (loopAt Try.prog 51 (labKey 3 1)) (stAt Try.prog hint 51 vs0 bx0) .ret s1 →
      LoopsOK Try.prog hint (acall Try.prog hint (ovrOf fun _ => none)) (ltab [(51, 30064771073, gcF 51 1 vs0 bx0 .ret s1)]) := fun hG => ltab_cons (by kernel_rfl) (gcF_ok (pos := 3) (l := 1) ⟨_, item_lab⟩ hG) ltab_nil
  have hno : LoopsOK Try.prog hint (acall Try.prog hint (ovrOf fun _ => none)) (ltab [(51, 30064771073, noL)]) := ltab_cons (by kernel_rfl) (fun p s e s' h => by cases h) ltab_nil
  have ht := sz_small nb cb 1 (u8s b) a k e
  by_cases i1 : a < b.length
  case neg =>
    have hr : szF b e a = ⟨false, 0, a, b.length, 72⟩ := by unfold szF; rw [dif_neg i1]
    rw [hr]
    rw [u8s_len] at ht
    exact ⟨_, hno, ht.trans (bif_step (decide_eq_true (by omega)) rfl)⟩
  have hx := b[a].toNat_lt
  have e1 : IntKind.i64.wrap (intOf (nthD (nthD (u8s b) (a : Int).toNat).cells 0)) = (b[a].toNat : Int) := by
    rw [nthD_u8 i1]
    have w3 : intOf (nthD (IV.int .u8 (b[a].toNat : Int)).cells 0) = (b[a].toNat : Int) := Eq.trans rfl rfl
    rw [w3, wrap_i64]; omega
  have e2 : isOf (LT.i IntKind.u8) (nthD (nthD (u8s b) (a : Int).toNat).cells 0) = true := by rw [nthD_u8 i1]; rfl
  have e3 : IntKind.i64.wrap ((a : Int) + 1) = ((a + 1 : Nat) : Int) := by rw [wrap_i64]; omega
  have e4 : ibits .and .i64 (b[a].toNat : Int) 127 = ((b[a].toNat % 128 : Nat) : Int) := and127 ⟨b[a].toNat, hx⟩
  rw [e1, e3, u8s_len, e4] at ht
  replace ht := fun r q => ht.trans (bif_stepF (r := r) (decide_eq_false (by omega)) (bif_step (decide_eq_true ⟨rfl, by omega, by omega⟩) (bif_step e2 q)))
  have hr : szF b e a = if b[a].toNat < 128 then szD b.length e a b[a].toNat (a + 1) else if b[a].toNat % 128 = 0 ∨ b[a].toNat % 128 > 4 then ⟨false, 0, a + 1, a, 71⟩ else szM b e a (b[a].toNat % 128) 0 (a + 1) := by unfold szF; rw [dif_pos i1]
  rw [hr]
  generalize hX : b[a].toNat = X at *
  by_cases i2 : X < 128
  · rw [if_pos i2]
    exact ⟨_, hno, ht _ (bif_step (decide_eq_true (by omega)) (szD_tail (by omega) (by omega) (by omega) (szL nb cb b k)))⟩
  rw [if_neg i2]
  replace ht := fun r q => ht r (bif_stepF (decide_eq_false (by omega)) q)
  by_cases i3 : X % 128 = 0 ∨ X % 128 > 4
  · rw [if_pos i3]
    refine ⟨_, hno, ht _ (bif_step ?_ rfl)⟩
    rcases i3 with i3 | i3
    · rw [i3]; rfl
    · rw [decide_eq_true (by omega : ((X % 128 : Nat) : Int) > 4)]
      cases ((X % 128 : Nat) : Int) == 0 <;> rfl
  rw [if_neg i3]
  have q3 : (bif ((X % 128 : Nat) : Int) == 0 then true else decide (((X % 128 : Nat) : Int) > 4)) = false := by
    rw [beq_eq_false_iff_ne.2 (by omega), decide_eq_false (by omega)]; rfl
  replace ht := fun r q => ht r (bif_stepF q3 q)
  obtain ⟨j, hj⟩ : ∃ j, X % 128 = j + 1 := ⟨X % 128 - 1, by omega⟩
  rw [hj] at ht ⊢
  by_cases i4 : a + 1 < b.length
  case neg =>
    have hr : szM b e a (j + 1) 0 (a + 1) = ⟨false, 0, a + 1, b.length, 72⟩ := by unfold szM; rw [dif_neg i4]
    rw [hr]
    exact ⟨_, hno, ht _ (bif_step (decide_eq_true (by omega)) rfl)⟩
  have hy := b[a + 1].toNat_lt
  have f1 : ibits BinOp.or IntKind.i64 (IntKind.i64.wrap ((0 : Int) * (2 : Int) ^ (8 : Nat))) (IntKind.i64.wrap (intOf (nthD (nthD (u8s b) ((a + 1 : Nat) : Int).toNat).cells 0))) = (b[a + 1].toNat : Int) := by
    rw [nthD_u8 i4]
    have w1 : IntKind.i64.wrap ((0 : Int) * (2 : Int) ^ (8 : Nat)) = ((0 * 2 ^ 8 : Nat) : Int) := by decide
    have w3 : intOf (nthD (IV.int .u8 (b[a + 1].toNat : Int)).cells 0) = (b[a + 1].toNat : Int) := Eq.trans rfl rfl
    have w2 : IntKind.i64.wrap (b[a + 1].toNat : Int) = (b[a + 1].toNat : Int) := by rw [wrap_i64]; omega
    rw [w3, w1, w2, or_i64 (by omega) (by omega)]
    omega
  have f2 : isOf (LT.i IntKind.u8) (nthD (nthD (u8s b) ((a + 1 : Nat) : Int).toNat).cells 0) = true := by rw [nthD_u8 i4]; rfl
  have f3 : IntKind.i64.wrap (((a + 1 : Nat) : Int) + 1) = ((a + 1 + 1 : Nat) : Int) := by rw [wrap_i64]; omega
  have f4 : IntKind.i64.wrap (((j + 1 : Nat) : Int) - 1) = (j : Int) := by rw [wrap_i64]; omega
  rw [f1, f3, f4] at ht
  replace ht := fun r q => ht r (bif_stepF (decide_eq_false (by omega)) (bif_step (decide_eq_true ⟨rfl, by omega, by omega⟩) (bif_step f2 q)))
  have hM : szM b e a (j + 1) 0 (a + 1) = if b[a + 1].toNat = 0 then ⟨false, 0, a + 1 + 1, a, 71⟩ else if 0 < j then szM b e a j b[a + 1].toNat (a + 1 + 1) else
      if b[a + 1].toNat < 128 then ⟨false, 0, a + 1 + 1, a, 71⟩ else szD b.length e a b[a + 1].toNat (a + 1 + 1) := by
    conv => lhs; unfold szM
    rw [dif_pos i4, Nat.zero_mul, Nat.zero_add]
  rw [hM]
  generalize hY : b[a + 1].toNat = Y at *
  by_cases i5 : Y = 0
  · rw [if_pos i5]
    exact ⟨_, hno, ht _ (bif_step (by rw [i5]; rfl) rfl)⟩
  rw [if_neg i5]
  by_cases i6 : 0 < j
  · rw [if_pos i6]
    obtain ⟨i, rfl⟩ : ∃ i, j = i + 1 := ⟨j - 1, by omega⟩
    have hp : 256 ^ 1 ≤ 256 ^ (4 - (i + 1)) := Nat.pow_le_pow_right (by omega) (by omega)
    obtain ⟨⟨tm, bx⟩, hG, x0, x1, x2, x3, rest, E1, E2⟩ := more_runs (nb := nb) (cb := cb) (b := b) (c := k) (e := e) (bg := a) h1 (by omega) i Y (a + 1 + 1) (by omega) (by omega) (by omega)
    simp only at E1 E2
    subst E1 E2
    have h2 := sz_tree nb cb 1 (u8s b) a k e x0 x1 x2 x3 rest (szM b e a (i + 1) Y (a + 1 + 1)).n (szM b e a (i + 1) Y (a + 1 + 1)).ok (szM b e a (i + 1) Y (a + 1 + 1)).a (szM b e a (i + 1) Y (a + 1 + 1)).fa (szM b e a (i + 1) Y (a + 1 + 1)).fc
    unfold n1E l1E q0E at h2
    rw [e1, e3, u8s_len, e4, hj, f1, f3, f4] at h2
    exact ⟨_, hgc hG, h2.trans (bif_stepF (decide_eq_false (by omega)) (bif_step (decide_eq_true ⟨rfl, by omega, by omega⟩) (bif_step e2 (bif_stepF (decide_eq_false (by omega)) (bif_stepF (by rw [hj] at q3; exact q3) (bif_stepF (decide_eq_false (by omega)) (bif_step (decide_eq_true ⟨rfl, by omega, by omega⟩) (bif_step f2 (bif_stepF (beq_eq_false_iff_ne.2 (by omega)) (bif_step (decide_eq_true (by omega)) (bif_step sameS_t rfl)))))))))))⟩
  rw [if_neg i6]
  replace ht := fun r q => ht r (bif_stepF (beq_eq_false_iff_ne.2 (by omega)) (bif_stepF (decide_eq_false (by omega)) q))
  by_cases i7 : Y < 128
  · rw [if_pos i7]
    exact ⟨_, hno, ht _ (bif_step (decide_eq_true (by omega)) rfl)⟩
  rw [if_neg i7]
  exact ⟨_, hno, ht _ (bif_stepF (decide_eq_false (by omega)) (szD_tail (by omega) (by omega) (by omega) (szL nb cb b k)))⟩
end
end Go.Proofs.Ytolpgbgmldpneaa
