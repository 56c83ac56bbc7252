/- A field that is written is read, and one that is read is written: plain laws. It bears no condition. -/
import Derived.Test.YtphddjolipaejaaWjB
namespace Go.Proofs.Ytphddjolipaejaa
open Go Go.Im
set_option linter.unusedVariables false
set_option linter.unusedSimpArgs false
noncomputable section

theorem fst_bits : ∀ (b c : Bool) (a : Fin 64), IntKind.i64.wrap (ibits .and .u8 (((a.val : Nat) : Int) + (bif b then 128 else 0) + (bif c then 64 else 0)) 63) = ((a.val : Nat) : Int) ∧
    (ibits .and .u8 (((a.val : Nat) : Int) + (bif b then 128 else 0) + (bif c then 64 else 0)) 128 != 0) = b ∧ (ibits .and .u8 (((a.val : Nat) : Int) + (bif b then 128 else 0) + (bif c then 64 else 0)) 64 != 0) = c := by decide +kernel
theorem bits_fst : ∀ n : Fin 256, (0 ≤ IntKind.i64.wrap (ibits .and .u8 ((n.val : Nat) : Int) 63) ∧ IntKind.i64.wrap (ibits .and .u8 ((n.val : Nat) : Int) 63) ≤ 63) ∧
    IntKind.i64.wrap (ibits .and .u8 ((n.val : Nat) : Int) 63) + (bif ibits .and .u8 ((n.val : Nat) : Int) 128 != 0 then 128 else 0) + (bif ibits .and .u8 ((n.val : Nat) : Int) 64 != 0 then 64 else 0) = ((n.val : Nat) : Int) := by decide +kernel
theorem fst8_bits {v : XV} (h : 0 ≤ v.a ∧ v.a ≤ 63) : IntKind.i64.wrap (ibits .and .u8 (fst8 v) 63) = v.a ∧ (ibits .and .u8 (fst8 v) 128 != 0) = v.b ∧ (ibits .and .u8 (fst8 v) 64 != 0) = v.c := by
  have := fst_bits v.b v.c ⟨v.a.toNat, by omega⟩
  have e : ((v.a.toNat : Nat) : Int) = v.a := by omega
  simp only [e] at this
  exact this
theorem cpX_eq {v : XV} {a d ts fs : Int} {b c : Bool} {l1 l2 : List IV} (h1 : a = v.a) (h2 : b = v.b) (h3 : c = v.c) (h4 : d = v.d) (h5 : ts = v.ts) (h6 : fs = v.fs) (h7 : l1 = v.l1) (h8 : l2 = v.l2) :
    (⟨a, b, c, d, ts, fs, none, false, 1, l1, none, false, 1, l2⟩ : XV) = cpX v := by
  subst h1 h2 h3 h4 h5 h6 h7 h8; rfl
theorem fd_0 (v : XV) : byI (fieldL v) 0 = fst8 v := Eq.trans rfl rfl
theorem fd_1 (v : XV) : byI (fieldL v) 1 = 0 := Eq.trans rfl rfl
theorem fd_6 (v : XV) : byI (fieldL v) 6 = 0 := Eq.trans rfl rfl
theorem fd_7 (v : XV) : byI (fieldL v) 7 = 0 := Eq.trans rfl rfl
theorem fd_n (v : XV) (r : List IV) : ((fieldL v ++ r).drop 2).take 2 = u8s (be 2 (xsize v : Nat)) := Eq.trans rfl rfl
theorem fd_d (v : XV) : ((fieldL v).drop 4).take 2 = u8s (be 2 (IntKind.u64.wrap v.d)) := Eq.trans rfl rfl
theorem fd_ts (v : XV) : ((fieldL v).drop 8).take 4 = u8s (be 4 (IntKind.u64.wrap v.ts)) := Eq.trans rfl rfl
theorem fd_fs (v : XV) : ((fieldL v).drop 12).take 4 = u8s (be 4 (IntKind.u64.wrap v.fs)) := Eq.trans rfl rfl
theorem fd_16 (v : XV) : (fieldL v).drop 16 = dataL v.l1 ++ (dataL v.l2 ++ []) := by rw [List.append_nil]; exact Eq.trans rfl rfl
theorem w64 {x : Int} (h : 0 ≤ x ∧ x ≤ 18446744073709551615) : IntKind.u64.wrap x = x := by rw [wrap_u64]; omega
theorem w32 {x : Int} (h : 0 ≤ x ∧ x ≤ 4294967295) : IntKind.u32.wrap x = x := by rw [wrap_u32]; omega
theorem wi {x : Int} (h : 0 ≤ x ∧ x ≤ 9223372036854775807) : IntKind.i64.wrap x = x := by rw [wrap_i64]; omega
theorem field_read {v : XV} (hg : goodX v = true) (hr : v.rng = true) : okR (fieldL v) = true ∧ xR (fieldL v) = cpX v := by
  obtain ⟨g1, g2, g3, g4, g5, g6⟩ := good_iff hg
  simp only [XV.rng, decide_eq_true_eq] at hr
  obtain ⟨r1, r2, r3, r4⟩ := hr
  obtain ⟨b1, b2, b3⟩ := fst8_bits (v := v) ⟨by omega, g2⟩
  obtain ⟨-, c2, c3, c4⟩ := cut_data (v := v.l1) (r := dataL v.l2 ++ []) g5
  obtain ⟨-, d2, d3, d4⟩ := cut_data (v := v.l2) (r := []) g6
  have hb : badR (fieldL v) = false := by
    simp only [badR, fd_0, fd_1, fd_6, fd_7, b1, Bool.or_eq_false_iff, bne_self_eq_false, beq_eq_false_iff_ne, ne_eq, true_and]
    omega
  refine ⟨?_, ?_⟩
  · unfold okR
    rw [hb, fd_16, c4, c3, d4, d3]
    rfl
  · unfold xR hdX valR sigR
    rw [hb, fd_0, fd_d, fd_ts, fd_fs, fd_16, c4, c3, d4, c2, d2, b1, b2, b3]
    refine cpX_eq rfl rfl rfl ?_ ?_ ?_ rfl rfl
    · rw [w64 (by omega), get_be g3 (by show v.d < ((65536 : Nat) : Int); omega), wi (by omega)]
    · rw [w64 (by omega), get_be r1 (by show v.ts < ((4294967296 : Nat) : Int); omega), w32 (by omega)]
    · rw [w64 (by omega), get_be r3 (by show v.fs < ((4294967296 : Nat) : Int); omega), w32 (by omega)]
theorem okR_iff {x : List IV} (h : okR x = true) : badR x = false ∧ cutOK (x.drop 16) = true ∧ cutOK (cutR (x.drop 16)) = true ∧ cutR (cutR (x.drop 16)) = [] := by
  unfold okR at h
  simp only [Bool.and_eq_true, Bool.not_eq_true', decide_eq_true_eq] at h
  exact ⟨h.1.1.1, h.1.1.2, h.1.2, List.length_eq_zero_iff.1 h.2⟩
theorem split16 {x : List IV} (h : 16 ≤ x.length) : x = [nthD x 0, nthD x 1] ++ (x.drop 2).take 2 ++ (x.drop 4).take 2 ++ [nthD x 6, nthD x 7] ++ (x.drop 8).take 4 ++ (x.drop 12).take 4 ++ x.drop 16 := by
  match x, h with
  | x0 :: x1 :: x2 :: x3 :: x4 :: x5 :: x6 :: x7 :: x8 :: x9 :: x10 :: x11 :: x12 :: x13 :: x14 :: x15 :: r, _ => rfl
theorem byI_eq {x : List IV} (ho : okB x = true) {i : Nat} (hi : i < x.length) : nthD x i = .int .u8 (byI x i) ∧ 0 ≤ byI x i ∧ byI x i < 256 := by
  obtain ⟨n, hn, hl⟩ := okB_nth ho hi
  have e : byI x i = (n : Int) := by unfold byI; rw [nthD_get hi, hn]; rfl
  rw [e, nthD_get hi, hn]
  exact ⟨rfl, by omega, by omega⟩
theorem read_field {x : List IV} (ho : okB x = true) (h16 : 16 ≤ x.length) (hx : okR x = true) (hn : (x.drop 2).take 2 = u8s (be 2 (x.length : Nat))) :
    fieldL (xR x) = x ∧ (xR x).ok = true ∧ goodX (xR x) = true ∧ (xR x).rng = true ∧ xsize (xR x) = x.length := by
  obtain ⟨hb, k1, k2, k3⟩ := okR_iff hx
  have o16 : okB (x.drop 16) = true := okB_drop ho 16
  obtain ⟨e1, v1, v2, v3⟩ := data_cut o16 k1
  obtain ⟨e2, w1, w2, w3⟩ := data_cut v3 k2
  rw [k3, List.append_nil] at e2
  have hV : valR x = cutV (x.drop 16) := by unfold valR; rw [hb, k1]; rfl
  have hS : sigR x = cutV (cutR (x.drop 16)) := by unfold sigR; rw [hb, k1, k2]; rfl
  obtain ⟨n0, p0, q0⟩ := byI_eq ho (i := 0) (by omega)
  obtain ⟨n1, p1, q1⟩ := byI_eq ho (i := 1) (by omega)
  obtain ⟨n6, p6, q6⟩ := byI_eq ho (i := 6) (by omega)
  obtain ⟨n7, p7, q7⟩ := byI_eq ho (i := 7) (by omega)
  have hb' : byI x 1 = 0 ∧ byI x 6 = 0 ∧ byI x 7 = 0 ∧ ¬ IntKind.i64.wrap (ibits .and .u8 (byI x 0) 63) = 0 := by
    simpa only [badR, Bool.or_eq_false_iff, bne_eq_false_iff_eq, beq_eq_false_iff_ne, ne_eq, and_assoc] using hb
  obtain ⟨z1, z6, z7, za⟩ := hb'
  have hbits := bits_fst ⟨(byI x 0).toNat, by omega⟩
  have eb : (((byI x 0).toNat : Nat) : Int) = byI x 0 := by omega
  simp only [eb] at hbits
  obtain ⟨⟨m1, m2⟩, m3⟩ := hbits
  have f8 : fst8 (xR x) = byI x 0 := m3
  have ga : ∀ a b, a ≤ 8 → 16 ≤ b + a ∨ b + a ≤ 16 → b + a ≤ x.length → ((x.drop b).take a).length = a := by
    intro a b _ _ h
    simp only [List.length_take, List.length_drop]; omega
  have g4 := getFG_lt ((x.drop 4).take 2)
  have g8 := getFG_lt ((x.drop 8).take 4)
  have g12 := getFG_lt ((x.drop 12).take 4)
  rw [ga 2 4 (by omega) (by omega) (by omega)] at g4
  rw [ga 4 8 (by omega) (by omega) (by omega)] at g8
  rw [ga 4 12 (by omega) (by omega) (by omega)] at g12
  have c2 : ((256 ^ 2 : Nat) : Int) = 65536 := rfl
  have c4 : ((256 ^ 4 : Nat) : Int) = 4294967296 := rfl
  rw [c2] at g4
  rw [c4] at g8 g12
  have hd : (xR x).d = getFG ((x.drop 4).take 2) := wi (by omega)
  have hts : (xR x).ts = getFG ((x.drop 8).take 4) := w32 (by omega)
  have hfs : (xR x).fs = getFG ((x.drop 12).take 4) := w32 (by omega)
  have l1 : (xR x).l1 = cutV (x.drop 16) := hV
  have l2 : (xR x).l2 = cutV (cutR (x.drop 16)) := hS
  have hsz : xsize (xR x) = x.length := by
    have h1 := congrArg List.length e1
    have h2 := congrArg List.length e2
    rw [List.length_append, dataL_len, List.length_drop] at h1
    rw [dataL_len] at h2
    unfold xsize
    rw [l1, l2]
    omega
  have ha : (xR x).a = IntKind.i64.wrap (ibits .and .u8 (byI x 0) 63) := rfl
  refine ⟨?_, ?_, ?_, ?_, hsz⟩
  · unfold fieldL
    rw [f8, hsz, ← hn, hd, hts, hfs, l1, l2, w64 (by omega), w64 (by omega), w64 (by omega), be_get (okB_take (okB_drop ho 4) 2) (ga 2 4 (by omega) (by omega) (by omega)),
      be_get (okB_take (okB_drop ho 8) 4) (ga 4 8 (by omega) (by omega) (by omega)), be_get (okB_take (okB_drop ho 12) 4) (ga 4 12 (by omega) (by omega) (by omega))]
    conv => rhs; rw [split16 h16, n0, n1, n6, n7, z1, z6, z7, e1, e2]
    rw [List.append_assoc _ (dataL _) (dataL _)]
  · rw [ok_iff, l1, l2]
    exact ⟨⟨.inl rfl, .inl rfl, by omega, by omega⟩, v2, w2⟩
  · simp only [goodX, decide_eq_true_eq]
    rw [ha, hd, l1, l2]
    exact ⟨by omega, m2, g4.1, by omega, v1, w1⟩
  · simp only [XV.rng, decide_eq_true_eq]
    rw [hts, hfs]
    omega
end
end Go.Proofs.Ytphddjolipaejaa
