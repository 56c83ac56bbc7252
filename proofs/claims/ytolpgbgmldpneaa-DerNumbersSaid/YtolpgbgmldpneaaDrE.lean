/- Values' bytes: what fits a tag, both programs. It bears no condition. -/
import Derived.Test.YtolpgbgmldpneaaDrD
namespace Go.Proofs.Ytolpgbgmldpneaa
open Go Go.Im
set_option linter.unusedVariables false
set_option linter.unusedSimpArgs false
set_option maxRecDepth 20000
noncomputable section
theorem bits_low : ∀ (x : Fin 8) (y : Fin 256), (ibits BinOp.and IntKind.u8 ((y.val : Nat) : Int) (IntKind.u8.wrap (IntKind.u8.wrap ((1 : Int) * (2 : Int) ^ min ((x.val : Nat) : Int).toNat (8 : Nat)) - (1 : Int))) == (0 : Int)) = decide (y.val % 2 ^ x.val = 0) := by decide +kernel
theorem bits_low' {x y : UInt8} (h : x.toNat < 8) : (ibits BinOp.and IntKind.u8 (y.toNat : Int) (IntKind.u8.wrap (IntKind.u8.wrap ((1 : Int) * (2 : Int) ^ min ((x.toNat : Int)).toNat (8 : Nat)) - (1 : Int))) == (0 : Int)) = lowB y x.toNat := bits_low ⟨x.toNat, h⟩ ⟨y.toNat, y.toNat_lt⟩
def cFt (t : Int) (z : Nat) (l : List IV) : Bool := cIx z l
def gFt (t : Int) (l : List IV) : Bool := fitsB t (toBytes l)
theorem u0 (x : UInt8) (r : List UInt8) : nthD (u8s (x :: r)) 0 = .int .u8 (x.toNat : Int) := Eq.trans rfl rfl
theorem u1 (x y : UInt8) (r : List UInt8) : nthD (u8s (x :: y :: r)) 1 = .int .u8 (y.toNat : Int) := Eq.trans rfl rfl
theorem beqN (a b : Nat) : ((a : Int) == (b : Int)) = (a == b) := by
  rw [Bool.eq_iff_iff]; simp only [beq_iff_eq]; omega
theorem dltN (a b : Nat) : decide ((a : Int) < (b : Int)) = decide (a < b) := by
  rw [Bool.eq_iff_iff]; simp
theorem fit_known : Known Try.prog hint 48 (fitP cFt gFt) := by
  refine known_of fits (spec := tab [(56, hasP cIx gHas)]) (tab_cons has_known tab_nil) loops_none ?_
  (intro xs T v T1 h; unfold fitP at h; split at h; rotate_left; · cases h)
  rename_i t nl cl z l
  simp only [List.mem_cons, List.not_mem_nil, or_false, Prod.mk.injEq, Bool.true_eq] at h
  obtain ⟨h1, rfl, rfl⟩ := h
  have hc := h1
  simp only [cFt, cIx, Bool.and_eq_true, decide_eq_true_eq] at h1
  obtain ⟨⟨h1, h2⟩, h3⟩ := h1
  obtain ⟨bs, rfl, hz⟩ := okz h1 h3
  rw [u8s_len] at h2
  refine ⟨30, (fit_tree cIx gHas t nl cl z (u8s bs)).trans ?_⟩
  unfold gFt
  rw [toBytes_u8s]
  by_cases t1 : t = 1
  · subst t1
    refine bif_step rfl ?_
    rcases bs with _ | ⟨x, _ | ⟨y, r⟩⟩
    · exact bif_stepF rfl rfl
    · obtain rfl : z = 1 := hz.resolve_right (by simp)
      refine bif_step rfl (bif_step rfl (bif_step rfl ?_))
      rw [u0, cellI, intI]
      by_cases hx : x.toNat = 0
      · exact bif_stepF (by rw [hx]; rfl) (by simp [fitsB, hx])
      · refine bif_step ?_ (bif_step rfl (bif_step rfl ?_))
        · rw [show ((x.toNat : Int) == 0) = false from beq_eq_false_iff_ne.2 (by omega)]; rfl
        · rw [show ((x.toNat : Int) == (255 : Int)) = (x.toNat == 255) from beqN _ 255]
          simp [fitsB, hx]
    · refine bif_stepF ?_ ?_
      · rw [show (((u8s (x :: y :: r)).length : Int) == 1) = false from beq_eq_false_iff_ne.2 (by rw [u8s_len]; simp only [List.length_cons]; omega)]; rfl
      · rfl
  by_cases t2 : t = 2
  · subst t2
    refine bif_stepF rfl (bif_step rfl ?_)
    rcases bs with _ | ⟨x, _ | ⟨y, r⟩⟩
    · rfl
    · rfl
    · obtain rfl : z = 1 := hz.resolve_right (by simp)
      have e1 : (((u8s (x :: y :: r)).length : Int) == 1) = false := beq_eq_false_iff_ne.2 (by rw [u8s_len]; simp only [List.length_cons]; omega)
      have e2 : decide (((u8s (x :: y :: r)).length : Int) > 1) = true := decide_eq_true (by rw [u8s_len]; simp only [List.length_cons]; omega)
      have e3 : decide ((1 : Nat) = 1 ∧ (0 : Int) ≤ 0 ∧ (0 : Int) < ((u8s (x :: y :: r)).length : Int)) = true := decide_eq_true ⟨rfl, by omega, by rw [u8s_len]; simp only [List.length_cons]; omega⟩
      have e4 : decide ((1 : Nat) = 1 ∧ (0 : Int) ≤ 1 ∧ (1 : Int) < ((u8s (x :: y :: r)).length : Int)) = true := decide_eq_true ⟨rfl, by omega, by rw [u8s_len]; simp only [List.length_cons]; omega⟩
      have e5 : ((x.toNat : Int) == (0 : Int)) = (x.toNat == 0) := beqN _ 0
      have e6 : ((x.toNat : Int) == (255 : Int)) = (x.toNat == 255) := beqN _ 255
      have e7 : decide ((y.toNat : Int) < (128 : Int)) = decide (y.toNat < 128) := dltN _ 128
      have e8 : decide ((y.toNat : Int) ≥ (128 : Int)) = decide (128 ≤ y.toNat) := by rw [Bool.eq_iff_iff]; simp only [decide_eq_true_eq]; omega
      rw [u0, u1, cellI, cellI, intI, intI, e1, e2, e3, e4, e5, e6, e7, e8, isI, isI]
      have fb : fitsB 2 (x :: y :: r) = (!(x.toNat == 0 && decide (y.toNat < 128)) && !(x.toNat == 255 && decide (128 ≤ y.toNat))) := rfl
      rw [fb]
      have k0 : (x.toNat == 0) = true ∧ (x.toNat == 255) = false ∨ (x.toNat == 0) = false ∧ (x.toNat == 255) = true ∨ (x.toNat == 0) = false ∧ (x.toNat == 255) = false := by
        simp only [beq_iff_eq, beq_eq_false_iff_ne]; omega
      have k1 : decide (y.toNat < 128) = true ∧ decide (128 ≤ y.toNat) = false ∨ decide (y.toNat < 128) = false ∧ decide (128 ≤ y.toNat) = true := by
        simp only [decide_eq_true_eq, decide_eq_false_iff_not]; omega
      rcases k0 with ⟨a, b⟩ | ⟨a, b⟩ | ⟨a, b⟩ <;> rcases k1 with ⟨c, d⟩ | ⟨c, d⟩ <;> rw [a, b, c, d] <;> rfl
  by_cases t3 : t = 3
  · subst t3
    refine bif_stepF rfl (bif_stepF rfl (bif_step rfl ?_))
    rcases bs with _ | ⟨x, _ | ⟨y, r⟩⟩
    · rfl
    · obtain rfl : z = 1 := hz.resolve_right (by simp)
      have e5 : ((x.toNat : Int) == (0 : Int)) = (x.toNat == 0) := beqN _ 0
      have e6 : decide ((x.toNat : Int) < (8 : Int)) = decide (x.toNat < 8) := dltN _ 8
      have ez : IntKind.i64.wrap (((u8s [x]).length : Int) - (1 : Int)) = 0 := by
        have hl1 : ((u8s [x]).length : Int) = 1 := by rw [u8s_len]; rfl
        rw [hl1, wrap_i64]; omega
      have ey : nthD (u8s [x]) ((0 : Int)).toNat = .int .u8 (x.toNat : Int) := Eq.trans rfl rfl
      have e3 : decide ((1 : Nat) = 1 ∧ (0 : Int) ≤ 0 ∧ (0 : Int) < ((u8s [x]).length : Int)) = true := rfl
      have e1 : decide (((u8s [x]).length : Int) > 0) = true := rfl
      have e2 : decide (((u8s [x]).length : Int) > 1) = false := rfl
      have e8 : decide ((0 : Int) ≤ (x.toNat : Int)) = true := decide_eq_true (by omega)
      rw [ez, ey, u0, cellI, intI, isI, e1, e2, e3, e5, e6, e8]
      have fb : fitsB 3 [x] = (x.toNat == 0) := rfl
      rw [fb]
      have k0 : (x.toNat = 0 ∧ (x.toNat == 0) = true ∧ decide (x.toNat < 8) = true) ∨ (x.toNat == 0) = false ∧ decide (x.toNat < 8) = true ∨ (x.toNat == 0) = false ∧ decide (x.toNat < 8) = false := by
        simp only [beq_iff_eq, beq_eq_false_iff_ne, decide_eq_true_eq, decide_eq_false_iff_not]; omega
      rcases k0 with ⟨h0, a, b⟩ | ⟨a, b⟩ | ⟨a, b⟩
      · rw [bits_low' (by omega), a, b, h0]
        have : lowB x 0 = true := decide_eq_true (by simp [Nat.mod_one])
        rw [this]; rfl
      · rw [a, b]; rfl
      · rw [a, b]; rfl
    · obtain rfl : z = 1 := hz.resolve_right (by simp)
      have hlen : (u8s (x :: y :: r)).length = r.length + 2 := by rw [u8s_len]; rfl
      have w : IntKind.i64.wrap (((u8s (x :: y :: r)).length : Int) - (1 : Int)) = ((r.length + 1 : Nat) : Int) := by
        rw [hlen, wrap_i64]; simp only [List.length_cons] at h2; omega
      have e5 : ((x.toNat : Int) == (0 : Int)) = (x.toNat == 0) := beqN _ 0
      have e6 : decide ((x.toNat : Int) < (8 : Int)) = decide (x.toNat < 8) := dltN _ 8
      have e7 : decide ((1 : Nat) = 1 ∧ (0 : Int) ≤ ((r.length + 1 : Nat) : Int) ∧ ((r.length + 1 : Nat) : Int) < ((u8s (x :: y :: r)).length : Int)) = true := decide_eq_true ⟨rfl, by omega, by rw [hlen]; omega⟩
      have e3 : decide ((1 : Nat) = 1 ∧ (0 : Int) ≤ 0 ∧ (0 : Int) < ((u8s (x :: y :: r)).length : Int)) = true := decide_eq_true ⟨rfl, by omega, by rw [hlen]; omega⟩
      have e1 : decide (((u8s (x :: y :: r)).length : Int) > 0) = true := decide_eq_true (by rw [hlen]; omega)
      have e2 : decide (((u8s (x :: y :: r)).length : Int) > 1) = true := decide_eq_true (by rw [hlen]; omega)
      have e8 : decide ((0 : Int) ≤ (x.toNat : Int)) = true := decide_eq_true (by omega)
      have eL : nthD (u8s (x :: y :: r)) (((r.length + 1 : Nat) : Int)).toNat = .int .u8 (((y :: r).getLast (by simp)).toNat : Int) := by
        rw [nthD_u8 (by simp)]
        congr 3
        rw [List.getLast_eq_getElem]
        simp
      rw [w, eL, e7, u0, cellI, cellI, intI, intI, isI, isI, e1, e2, e3, e5, e6, e8]
      have fb : fitsB 3 (x :: y :: r) = (decide (x.toNat < 8) && lowB ((y :: r).getLast (by simp)) x.toNat) := rfl
      rw [fb]
      by_cases k : x.toNat < 8
      · rw [bits_low' k, decide_eq_true k]; cases lowB ((y :: r).getLast (by simp)) x.toNat <;> rfl
      · rw [decide_eq_false k]; rfl
  by_cases t4 : t = 4
  · subst t4
    exact bif_stepF rfl (bif_stepF rfl (bif_stepF rfl (bif_step rfl rfl)))
  by_cases t5 : t = 5
  · subst t5
    refine bif_stepF rfl (bif_stepF rfl (bif_stepF rfl (bif_stepF rfl (bif_step rfl ?_))))
    have fb : fitsB 5 bs = bs.isEmpty := rfl
    rw [fb]
    congr 3
    rw [u8s_len]
    cases bs with
    | nil => rfl
    | cons x r => simp only [List.length_cons, List.isEmpty_cons]; exact beq_eq_false_iff_ne.2 (by omega)
  by_cases t12 : t = 12
  · subst t12
    refine bif_stepF rfl (bif_stepF rfl (bif_stepF rfl (bif_stepF rfl (bif_stepF rfl (bif_step rfl (bif_step hc ?_))))))
    have fb : fitsB 12 bs = !bs.any badC := rfl
    rw [fb]
    unfold gHas
    rw [toBytes_u8s]
  · have n1 : (t == (1 : Int)) = false := beq_eq_false_iff_ne.2 t1
    have n2 : (t == (2 : Int)) = false := beq_eq_false_iff_ne.2 t2
    have n3 : (t == (3 : Int)) = false := beq_eq_false_iff_ne.2 t3
    have n4 : (t == (4 : Int)) = false := beq_eq_false_iff_ne.2 t4
    have n5 : (t == (5 : Int)) = false := beq_eq_false_iff_ne.2 t5
    have n12 : (t == (12 : Int)) = false := beq_eq_false_iff_ne.2 t12
    have fb : fitsB t bs = false := by unfold fitsB; rw [n1, n2, n3, n4, n5, n12]; rfl
    rw [fb]
    exact bif_stepF n1 (bif_stepF n2 (bif_stepF n3 (bif_stepF n4 (bif_stepF n5 (bif_stepF n12 rfl)))))
end
end Go.Proofs.Ytolpgbgmldpneaa
