/- The document's fields, read by what they would be: plain laws. It bears no condition. -/
import Derived.Test.YtgbddcdpbgaojaaBbD
namespace Go.Proofs.Ytgbddcdpbgaojaa
open Go Go.Im
set_option linter.unusedVariables false
set_option linter.unusedSimpArgs false
set_option maxRecDepth 20000
noncomputable section

/-! ### What stands in a row -/
def pN (L : List IV) : Nat := numL (toBytes ((L.drop 2).take 2))
def pV (L : List IV) : Nat := numL (toBytes ((L.drop 16).take 4))
def pT (L : List IV) : Nat := 20 + (pV L + fillN (pV L))
def pS (L : List IV) : Nat := numL (toBytes ((L.drop (pT L)).take 4))
def pA (L : List IV) : Int := (IntKind.i64.wrap (byI L 0)).tmod 64
def pX (L : List IV) : XV := { a := pA L, b := decide (byI L 0 > 127), c := (IntKind.u8.wrap ((byI L 0).tdiv 64)).tmod 2 == 1, d := IntKind.i64.wrap (getFG ((L.drop 4).take 2)), ts := IntKind.u32.wrap (getFG ((L.drop 8).take 4)), fs := IntKind.u32.wrap (getFG ((L.drop 12).take 4)), n1 := none, c1 := false, z1 := 1, l1 := (L.drop 20).take (pV L), n2 := none, c2 := false, z2 := 1, l2 := (L.drop (pT L + 4)).take (pS L) }
def re1 (L : List IV) : Prop := 24 ≤ L.length ∧ 24 ≤ pN L ∧ pN L ≤ L.length ∧ pV L ≤ 2048 ∧ pT L + 4 ≤ pN L
def re2 (L : List IV) : Prop := pS L ≤ 2048 ∧ pT L + 4 + pS L ≤ pN L
theorem take_in {α : Type} (L : List α) {n i j : Nat} (h : i + j ≤ n) : ((L.take n).drop i).take j = (L.drop i).take j := by
  rw [List.drop_take, List.take_take]
  congr 1
  omega
theorem byI_take (L : List IV) {n : Nat} (h : 1 ≤ n) : byI (L.take n) 0 = byI L 0 := by
  unfold byI
  cases L with
  | nil => simp
  | cons x L =>
    obtain ⟨m, rfl⟩ : ∃ m, n = m + 1 := ⟨n - 1, by omega⟩
    rfl
theorem num2_lt (l : List IV) : numL (toBytes (l.take 2)) < 65536 := by
  have := numL_lt (toBytes (l.take 2))
  rw [toBytes_len] at this
  exact Nat.lt_of_lt_of_le this (Nat.le_trans (Nat.pow_le_pow_right (by decide) (by simp only [List.length_take]; omega : (l.take 2).length ≤ 2)) (by decide))
theorem num4_lt (l : List IV) : numL (toBytes (l.take 4)) < 4294967296 := by
  have := numL_lt (toBytes (l.take 4))
  rw [toBytes_len] at this
  exact Nat.lt_of_lt_of_le this (Nat.le_trans (Nat.pow_le_pow_right (by decide) (by simp only [List.length_take]; omega : (l.take 4).length ≤ 4)) (by decide))
theorem byI_rng {L : List IV} (ho : okB L = true) (h : 1 ≤ L.length) : 0 ≤ byI L 0 ∧ byI L 0 < 256 := (byI_eq ho (i := 0) (by omega)).2
theorem pA_rng {L : List IV} (ho : okB L = true) (h : 1 ≤ L.length) : 0 ≤ pA L ∧ pA L ≤ 63 := by
  obtain ⟨h1, h2⟩ := byI_rng ho h
  unfold pA
  rw [wrap_i64_id (by omega) (by omega), Int.tmod_eq_emod_of_nonneg h1]
  omega
theorem pX_good {L : List IV} (ho : okB L = true) (h1 : re1 L) (h2 : re2 L) (ha : 0 < pA L) : goodX (pX L) = true ∧ (pX L).rng = true := by
  obtain ⟨k1, k2, k3, k4, k5⟩ := h1
  obtain ⟨k6, k7⟩ := h2
  obtain ⟨a1, a2⟩ := pA_rng ho (by omega)
  have d1 := getFG_lt ((L.drop 4).take 2)
  have d2 := num2_lt (L.drop 4)
  have e1 : getFG ((L.drop 4).take 2) = ((numL (toBytes ((L.drop 4).take 2)) : Nat) : Int) := rfl
  constructor
  · unfold goodX
    refine decide_eq_true ⟨?_, ?_, ?_, ?_, ?_, ?_⟩
    · show 1 ≤ pA L; omega
    · exact a2
    · show 0 ≤ IntKind.i64.wrap (getFG ((L.drop 4).take 2))
      rw [e1, wrap_i64]; omega
    · show IntKind.i64.wrap (getFG ((L.drop 4).take 2)) ≤ 65535
      rw [e1, wrap_i64]; omega
    · show ((L.drop 20).take (pV L)).length ≤ 2048
      rw [List.length_take]; omega
    · show ((L.drop (pT L + 4)).take (pS L)).length ≤ 2048
      rw [List.length_take]; omega
  · unfold XV.rng
    refine decide_eq_true ⟨?_, ?_, ?_, ?_⟩
    · show 0 ≤ IntKind.u32.wrap _; rw [wrap_u32]; omega
    · show IntKind.u32.wrap _ ≤ 4294967295; rw [wrap_u32]; omega
    · show 0 ≤ IntKind.u32.wrap _; rw [wrap_u32]; omega
    · show IntKind.u32.wrap _ ≤ 4294967295; rw [wrap_u32]; omega
theorem xsize_good {v : XV} (h : goodX v = true) : 24 ≤ xsize v ∧ xsize v ≤ 4200 ∧ xsize v % 4 = 0 := by
  obtain ⟨_, _, _, _, h1, h2⟩ := good_iff h
  unfold xsize fillN
  omega
/-- A field that is what it would be is read. -/
theorem one_fwd {L : List IV} (ho : okB L = true) (h1 : re1 L) (h2 : re2 L) (ha : 0 < pA L) (he : fieldL (pX L) = L.take (pN L)) : okR (L.take (pN L)) = true ∧ xR (L.take (pN L)) = pX L ∧ pN L % 4 = 0 := by
  obtain ⟨g1, g2⟩ := pX_good ho h1 h2 ha
  obtain ⟨q1, q2⟩ := field_read g1 g2
  have q3 := xsize_good g1
  have q4 := fieldL_len (pX L)
  rw [he] at q1 q2 q4
  refine ⟨q1, q2.trans rfl, ?_⟩
  rw [List.length_take, Nat.min_eq_left h1.2.2.1] at q4
  omega
theorem fill_len (v : List IV) : (dataL v).length = 4 + (v.length + fillN v.length) := by rw [dataL_len]; omega
/-- A field that is read is what it would be. -/
theorem one_bwd {L : List IV} (ho : okB L = true) (h24 : 24 ≤ L.length) (hn : 24 ≤ pN L) (hnl : pN L ≤ L.length) (hr : okR (L.take (pN L)) = true) :
    re1 L ∧ re2 L ∧ 0 < pA L ∧ fieldL (pX L) = L.take (pN L) ∧ xR (L.take (pN L)) = pX L := by
  have hFl : (L.take (pN L)).length = pN L := by rw [List.length_take]; omega
  have e2 : ((L.take (pN L)).drop 2).take 2 = u8s (be 2 (((L.take (pN L)).length : Nat) : Int)) := by
    rw [take_in L (by omega), hFl]
    have := be_get (okB_take (okB_drop ho 2) 2) (n := 2) (by rw [List.length_take, List.length_drop]; omega)
    exact this.symm
  obtain ⟨f1, f2, f3, f4, f5⟩ := read_field (okB_take ho _) (by rw [hFl]; omega) hr e2
  have hb0 : byI (L.take (pN L)) 0 = byI L 0 := byI_take L (by omega)
  rw [hFl] at f5
  -- what stands in it
  have t16 : ∀ j, 16 + j ≤ pN L → ((L.take (pN L)).drop 16).take j = (L.drop 16).take j := fun j hj => take_in L hj
  have c4 := take_in L (n := pN L) (i := 4) (j := 2) (by omega)
  have c8 := take_in L (n := pN L) (i := 8) (j := 4) (by omega)
  have c12 := take_in L (n := pN L) (i := 12) (j := 4) (by omega)
  have hX : ∀ y, y = xR (L.take (pN L)) → y.d = IntKind.i64.wrap (getFG ((L.drop 4).take 2)) ∧ y.ts = IntKind.u32.wrap (getFG ((L.drop 8).take 4)) ∧ y.fs = IntKind.u32.wrap (getFG ((L.drop 12).take 4)) ∧ y.n1 = none ∧ y.c1 = false ∧ y.z1 = 1 ∧ y.n2 = none ∧ y.c2 = false ∧ y.z2 = 1 := fun y hy => by
    subst hy
    rw [← c4, ← c8, ← c12]
    exact ⟨rfl, rfl, rfl, rfl, rfl, rfl, rfl, rfl, rfl⟩
  generalize hy : xR (L.take (pN L)) = y at *
  obtain ⟨x3, x4, x5, x6, x7, x8, x9, x10, x11⟩ := hX y rfl
  obtain ⟨g1, g2, g3, g4, g5, g6⟩ := good_iff f3
  have h16 : (L.take (pN L)).drop 16 = dataL y.l1 ++ (dataL y.l2 ++ []) := by rw [← f1]; exact fd_16 y
  rw [List.append_nil] at h16
  have hsz : 24 + (y.l1.length + fillN y.l1.length) + (y.l2.length + fillN y.l2.length) = pN L := f5
  have hu4 : ∀ v : List IV, (dataL v).take 4 = u8s (be 4 (v.length : Int)) := fun v => by
    unfold dataL
    rw [List.append_assoc, List.take_left' (by rw [u8s_len, be_len])]
  have hd4 : ∀ v : List IV, (dataL v).drop 4 = v ++ List.replicate (fillN v.length) (.int .u8 0) := fun v => by
    unfold dataL
    rw [List.append_assoc, List.drop_left' (by rw [u8s_len, be_len])]
  have hV : pV L = y.l1.length := by
    unfold pV
    rw [← t16 4 (by omega), h16, List.take_append_of_le_length (by rw [fill_len]; omega), hu4, toBytes_u8s, num_be, Nat.mod_eq_of_lt (by omega)]
  have hT : pT L = 20 + (y.l1.length + fillN y.l1.length) := by unfold pT; rw [hV]
  have hdT : (L.take (pN L)).drop (pT L) = dataL y.l2 := by
    rw [hT, show 20 + (y.l1.length + fillN y.l1.length) = 16 + (4 + (y.l1.length + fillN y.l1.length)) by omega, ← List.drop_drop, h16, List.drop_left' (fill_len _)]
  have hS : pS L = y.l2.length := by
    unfold pS
    rw [← take_in L (n := pN L) (by omega), hdT, hu4, toBytes_u8s, num_be, Nat.mod_eq_of_lt (by omega)]
  have r1 : re1 L := ⟨h24, hn, hnl, by omega, by omega⟩
  have r2 : re2 L := ⟨by omega, by omega⟩
  have hl1 : (L.drop 20).take (pV L) = y.l1 := by
    rw [← take_in L (n := pN L) (by omega), hV, show (20 : Nat) = 16 + 4 from rfl, ← List.drop_drop, h16, List.drop_append_of_le_length (by rw [fill_len]; omega), hd4, List.append_assoc, List.take_left' rfl]
  have hl2 : (L.drop (pT L + 4)).take (pS L) = y.l2 := by
    rw [← take_in L (n := pN L) (by omega), hS, ← List.drop_drop, hdT, hd4, List.take_left' rfl]
  have hb : byI L 0 = fst8 y := by rw [← hb0, ← f1]; exact fd_0 y
  have hfs : fst8 y = y.a + (bif y.b then 128 else 0) + (bif y.c then 64 else 0) := rfl
  have hpA : pA L = y.a := by
    unfold pA
    rw [hb, hfs]
    cases y.b <;> cases y.c <;> simp only [cond_true, cond_false] <;> rw [wrap_i64_id (by omega) (by omega), Int.tmod_eq_emod_of_nonneg (by omega)] <;> omega
  have hpB : decide (byI L 0 > 127) = y.b := by
    rw [hb, hfs]
    cases y.b <;> cases y.c <;> simp only [cond_true, cond_false]
    · exact decide_eq_false (by omega)
    · exact decide_eq_false (by omega)
    · exact decide_eq_true (by omega)
    · exact decide_eq_true (by omega)
  have hpC : ((IntKind.u8.wrap ((byI L 0).tdiv 64)).tmod 2 == 1) = y.c := by
    rw [hb, hfs]
    cases y.b <;> cases y.c <;> simp only [cond_true, cond_false] <;> rw [Int.tdiv_eq_ediv_of_nonneg (by omega), wrap_u8_id (by omega) (by omega), Int.tmod_eq_emod_of_nonneg (by omega)]
    · exact beq_eq_false_iff_ne.2 (by omega)
    · exact beq_iff_eq.2 (by omega)
    · exact beq_eq_false_iff_ne.2 (by omega)
    · exact beq_iff_eq.2 (by omega)
  have hP : pX L = y := by
    obtain ⟨ya, yb, yc, yd, yts, yfs, yn1, yc1, yz1, yl1, yn2, yc2, yz2, yl2⟩ := y
    simp only at x3 x4 x5 x6 x7 x8 x9 x10 x11 hl1 hl2 hpA hpB hpC
    unfold pX
    rw [hpA, hpB, hpC, hl1, hl2, ← x3, ← x4, ← x5, x6, x7, x8, x9, x10, x11]
  exact ⟨r1, r2, by omega, by rw [hP]; exact f1, hP.symm⟩
end
end Go.Proofs.Ytgbddcdpbgaojaa
