/- A packet that is written is read, and one that is read is written: plain laws. It bears no condition. -/
import Derived.Test.YtphddjolipaejaaWjC
namespace Go.Proofs.Ytphddjolipaejaa
open Go Go.Im
set_option linter.unusedVariables false
set_option linter.unusedSimpArgs false
noncomputable section

/-! ### The fields -/
theorem xsize_good {v : XV} (h : goodX v = true) : 24 ≤ xsize v ∧ xsize v ≤ 4200 ∧ xsize v % 4 = 0 := by
  obtain ⟨_, _, _, _, h5, h6⟩ := good_iff h
  unfold xsize fillN
  omega
theorem fieldsL_cons (v : XV) (vs : List XV) : fieldsL (v :: vs) = fieldL v ++ fieldsL vs := rfl
theorem rdL_fwd : ∀ (vs : List XV) (f k : Nat) (es pre t : List IV), pre.length = k → (∀ v ∈ vs, goodX v = true ∧ v.rng = true) → t.length ≤ 20 → es.length + vs.length ≤ 8 → 9 ≤ f + es.length →
    rdL (pre ++ (fieldsL vs ++ t)) f k es = (true, k + sizes vs, es ++ (vs.map cpX).map XV.iv)
  | vs, 0, k, es, pre, t, hp, hv, ht, h8, h9 => by omega
  | [], f + 1, k, es, pre, t, hp, hv, ht, h8, h9 => by
    unfold rdL
    rw [decide_eq_true (by simp [fieldsL]; omega)]
    simp [sizes]
  | v :: vs, f + 1, k, es, pre, t, hp, hv, ht, h8, h9 => by
    obtain ⟨hg, hr⟩ := hv v (List.mem_cons_self ..)
    obtain ⟨x1, x2, x3⟩ := xsize_good hg
    obtain ⟨o1, o2⟩ := field_read hg hr
    have e : pre ++ (fieldsL (v :: vs) ++ t) = pre ++ (fieldL v ++ (fieldsL vs ++ t)) := by rw [fieldsL_cons, List.append_assoc]
    have hd : (pre ++ (fieldsL (v :: vs) ++ t)).drop k = fieldL v ++ (fieldsL vs ++ t) := by rw [e, List.drop_left' hp]
    have hl : (pre ++ (fieldsL (v :: vs) ++ t)).length = k + (xsize v + ((fieldsL vs).length + t.length)) := by
      rw [e]; simp only [List.length_append, fieldL_len, hp]
    have hn : lnN (pre ++ (fieldsL (v :: vs) ++ t)) k = xsize v := by
      unfold lnN
      rw [← List.drop_drop, hd, fd_n, toBytes_u8s, num_be, Nat.mod_eq_of_lt (by omega)]
    have hx : fldR (pre ++ (fieldsL (v :: vs) ++ t)) k = fieldL v := by
      unfold fldR
      rw [hn, hd, List.take_left' (fieldL_len v)]
    have hB : badK (pre ++ (fieldsL (v :: vs) ++ t)) k es = false := by
      unfold badK lenBad
      rw [hn, hl, hx, o1, decide_eq_false (by omega), decide_eq_false (by simp only [List.length_cons] at h8; omega)]; rfl
    unfold rdL
    rw [hB, hn, hx, o2, decide_eq_false (by rw [hl]; omega), cond_false, cond_false]
    have ih := rdL_fwd vs f (k + xsize v) (es ++ [(cpX v).iv]) (pre ++ fieldL v) t (by simp [hp, fieldL_len]) (fun w hw => hv w (List.mem_cons_of_mem _ hw)) ht (by simp only [List.length_append, List.length_cons, List.length_nil] at *; omega) (by simp; omega)
    rw [e, ← List.append_assoc, ih, sizes_cons, Nat.add_assoc, List.append_assoc]
    rfl
theorem badK_iff {l : List IV} {k : Nat} {es : List IV} (h : badK l k es = false) : k + 24 ≤ l.length ∧ 24 ≤ lnN l k ∧ lnN l k % 4 = 0 ∧ k + lnN l k ≤ l.length ∧ es.length ≠ 8 ∧ okR (fldR l k) = true := by
  unfold badK at h
  cases h1 : lenBad l k
  · rw [h1, cond_false] at h
    by_cases h2 : es.length = 8
    · rw [decide_eq_true h2] at h; cases h
    rw [decide_eq_false h2, cond_false] at h
    simp only [lenBad, decide_eq_false_iff_not] at h1
    exact ⟨by omega, by omega, by omega, by omega, h2, by simpa using h⟩
  · rw [h1] at h; cases h
theorem rdL_bwd {l : List IV} (ho : okB l = true) : ∀ (f k : Nat) (es : List IV) (k' : Nat) (es' : List IV), k ≤ l.length → es.length ≤ 8 → rdL l f k es = (true, k', es') →
    ∃ vs, es' = es ++ vs.map XV.iv ∧ (∀ v ∈ vs, v.ok = true ∧ goodX v = true ∧ v.rng = true) ∧ k' = k + sizes vs ∧ k' ≤ l.length ∧ l.length ≤ k' + 20 ∧ (l.drop k).take (sizes vs) = fieldsL vs ∧ es'.length ≤ 8
  | 0, k, es, k', es', hk, h8, h => by cases h
  | f + 1, k, es, k', es', hk, h8, h => by
    unfold rdL at h
    by_cases c1 : l.length ≤ k + 20
    · rw [decide_eq_true c1] at h
      cases h
      exact ⟨[], by simp, by simp, by simp [sizes], hk, c1, by simp [sizes, fieldsL], h8⟩
    rw [decide_eq_false c1, cond_false] at h
    cases hB : badK l k es
    case true => rw [hB] at h; cases h
    rw [hB, cond_false] at h
    obtain ⟨b1, b2, b3, b4, b5, b6⟩ := badK_iff hB
    have hx : (fldR l k).length = lnN l k := by simp only [fldR, List.length_take, List.length_drop]; omega
    have hox : okB (fldR l k) = true := okB_take (okB_drop ho _) _
    have hn : ((fldR l k).drop 2).take 2 = u8s (be 2 ((fldR l k).length : Nat)) := by
      have e1 : ((fldR l k).drop 2).take 2 = (l.drop (k + 2)).take 2 := by
        unfold fldR
        rw [List.drop_take, List.take_take, List.drop_drop, Nat.min_eq_left (by omega)]
      rw [e1, hx]
      have e2 := be_get (okB_take (okB_drop ho (k + 2)) 2) (n := 2) (by simp only [List.length_take, List.length_drop]; omega)
      rw [getFG_nat] at e2
      exact e2.symm
    obtain ⟨f1, f2, f3, f4, f5⟩ := read_field hox (by omega) b6 hn
    obtain ⟨vs, h1, h2, h3, h4, h5, h6, h7⟩ := rdL_bwd ho f (k + lnN l k) (es ++ [(xR (fldR l k)).iv]) k' es' b4 (by simp; omega) h
    rw [hx] at f5
    refine ⟨xR (fldR l k) :: vs, ?_, ?_, ?_, h4, h5, ?_, h7⟩
    · rw [h1]; simp
    · intro v hv
      rcases List.mem_cons.1 hv with rfl | hv
      · exact ⟨f2, f3, f4⟩
      · exact h2 v hv
    · rw [h3, sizes_cons, f5]; omega
    · rw [sizes_cons, f5, List.take_add, List.drop_drop, h6, fieldsL_cons, f1]; rfl

/-! ### The head -/
theorem hd_bits : ∀ (a : Fin 4) (m : Fin 6), IntKind.i64.wrap ((64 * ((a.val : Nat) : Int) + 32 + ((m.val : Nat) : Int)).fdiv ((2 : Int) ^ (6 : Nat))) = ((a.val : Nat) : Int) ∧
    IntKind.i64.wrap (ibits .and .u8 ((64 * ((a.val : Nat) : Int) + 32 + ((m.val : Nat) : Int)).fdiv ((2 : Int) ^ (3 : Nat))) 7) = 4 ∧ IntKind.i64.wrap (ibits .and .u8 (64 * ((a.val : Nat) : Int) + 32 + ((m.val : Nat) : Int)) 7) = ((m.val : Nat) : Int) := by decide +kernel
theorem bits_hd : ∀ n : Fin 256, IntKind.i64.wrap (ibits .and .u8 ((((n.val : Nat) : Int)).fdiv ((2 : Int) ^ (3 : Nat))) 7) = 4 →
    (0 ≤ IntKind.i64.wrap ((((n.val : Nat) : Int)).fdiv ((2 : Int) ^ (6 : Nat))) ∧ IntKind.i64.wrap ((((n.val : Nat) : Int)).fdiv ((2 : Int) ^ (6 : Nat))) ≤ 3) ∧
    64 * IntKind.i64.wrap ((((n.val : Nat) : Int)).fdiv ((2 : Int) ^ (6 : Nat))) + 32 + IntKind.i64.wrap (ibits .and .u8 ((n.val : Nat) : Int) 7) = ((n.val : Nat) : Int) := by decide +kernel
theorem hw_0 (p : PK) (r : List IV) : byI (hdrL p ++ r) 0 = headN p := Eq.trans rfl rfl
theorem hw_1 (p : PK) (r : List IV) : byI (hdrL p ++ r) 1 = IntKind.u8.wrap p.st := Eq.trans rfl rfl
theorem hw_2 (p : PK) (r : List IV) : byI (hdrL p ++ r) 2 = IntKind.u8.wrap p.po := Eq.trans rfl rfl
theorem hw_3 (p : PK) (r : List IV) : byI (hdrL p ++ r) 3 = IntKind.u8.wrap p.pr := Eq.trans rfl rfl
theorem hw_4 (p : PK) (r : List IV) : ((hdrL p ++ r).drop 4).take 4 = u8s (be 4 (IntKind.u64.wrap p.de)) := Eq.trans rfl rfl
theorem hw_8 (p : PK) (r : List IV) : ((hdrL p ++ r).drop 8).take 4 = u8s (be 4 (IntKind.u64.wrap p.di)) := Eq.trans rfl rfl
theorem hw_12 (p : PK) (r : List IV) : ((hdrL p ++ r).drop 12).take 4 = u8s (be 4 (IntKind.u64.wrap p.ri)) := Eq.trans rfl rfl
theorem hw_16 (p : PK) (r : List IV) : ((hdrL p ++ r).drop 16).take 8 = u8s (be 8 p.rf) := Eq.trans rfl rfl
theorem hw_24 (p : PK) (r : List IV) : ((hdrL p ++ r).drop 24).take 8 = u8s (be 8 p.og) := Eq.trans rfl rfl
theorem hw_32 (p : PK) (r : List IV) : ((hdrL p ++ r).drop 32).take 8 = u8s (be 8 p.rc) := Eq.trans rfl rfl
theorem hw_40 (p : PK) (r : List IV) : ((hdrL p ++ r).drop 40).take 8 = u8s (be 8 p.xm) := Eq.trans rfl rfl
theorem b4 {x : Int} (h : 0 ≤ x ∧ x ≤ 4294967295) : IntKind.u32.wrap (getFG (u8s (be 4 (IntKind.u64.wrap x)))) = x := by
  rw [w64 (by omega), get_be h.1 (by show x < ((4294967296 : Nat) : Int); omega), w32 h]
theorem b8 {x : Int} (h : 0 ≤ x ∧ x ≤ 18446744073709551615) : getFG (u8s (be 8 x)) = x := get_be h.1 (by show x < ((18446744073709551616 : Nat) : Int); omega)
theorem wrap8 {x : Int} (h : -128 ≤ x ∧ x ≤ 127) : IntKind.i64.wrap (IntKind.i8.wrap (IntKind.u8.wrap x)) = x := by
  rw [wrap_u8, wrap_i8, wrap_i64]; omega
theorem hd_write {p : PK} {r : List IV} (h : p.headOK = true) (hg : p.rng = true) : hdP getFG (hdrL p ++ r) = { p with n1 := none, c1 := false, z1 := 8, es := [], ha := false, ky := 0, n2 := some true, c2 := true, z2 := 0, su := [] } := by
  obtain ⟨h1, h2, h3, h4, h5, h6, h7, h8, h9, h10, h11, h12⟩ := head_iff h
  simp only [PK.rng, Bool.and_eq_true, decide_eq_true_eq] at hg
  obtain ⟨⟨a1, a2, a3, a4, a5, a6, a7, a8, a9, a10, a11, a12, a13, a14, a15, a16⟩, _⟩ := hg
  have hb := hd_bits ⟨p.le.toNat, by omega⟩ ⟨p.mo.toNat, by omega⟩
  have e1 : ((p.le.toNat : Nat) : Int) = p.le := by omega
  have e2 : ((p.mo.toNat : Nat) : Int) = p.mo := by omega
  simp only [e1, e2] at hb
  obtain ⟨b1, b2, b3⟩ := hb
  have eh : headN p = 64 * p.le + 32 + p.mo := rfl
  unfold hdP
  rw [hw_0, hw_1, hw_2, hw_3, hw_4, hw_8, hw_12, hw_16, hw_24, hw_32, hw_40, eh, b1, b2, b3, wrap8 ⟨h10, h11⟩, b4 ⟨a1, a2⟩, b4 ⟨a3, a4⟩, b4 ⟨a5, a6⟩, b8 ⟨a9, a10⟩, b8 ⟨a11, a12⟩, b8 ⟨a13, a14⟩, b8 ⟨a15, a16⟩]
  have e3 : IntKind.i64.wrap (IntKind.u8.wrap p.st) = p.st := by rw [wrap_u8, wrap_i64]; omega
  have e4 : IntKind.i64.wrap (IntKind.u8.wrap p.po) = p.po := by rw [wrap_u8, wrap_i64]; omega
  rw [e3, e4, ← h3]

/-! ### What is written is read -/
theorem write_read {p : PK} (hr : p.right = true) (hg : p.rng = true) : rdA (writeL p) = none ∧ rdN (writeL p) = 48 + sizes p.xs ∧ okPk (writeL p) = cpy p := by
  obtain ⟨r1, r2, r3, r4⟩ := right_iff hr
  have hgv : ∀ v ∈ p.xs, v.rng = true := by
    simp only [PK.rng, Bool.and_eq_true, List.all_eq_true] at hg
    exact hg.2
  obtain ⟨h1, h2, h3, h4, h5, h6, h7, h8, h9, h10, h11, h12⟩ := head_iff r1
  have ew : writeL p = hdrL p ++ (fieldsL p.xs ++ macsL p) := by rw [writeL, List.append_assoc]
  have hm : p.macN = 0 ∧ p.ha = false ∨ (p.macN = 4 ∨ p.macN = 20) ∧ p.ha = true ∧ p.macN = 4 + p.su.length := by
    unfold PK.macOK at r3
    unfold PK.macN
    cases h : p.ha
    · exact .inl ⟨rfl, rfl⟩
    · rw [h, cond_true, decide_eq_true_eq] at r3
      rw [cond_true]
      exact .inr ⟨by omega, rfl, rfl⟩
  have hml := macsL_len p
  have hR : rdR (writeL p) = (true, 48 + sizes p.xs, cpES p) := by
    unfold rdR
    rw [ew, rdL_fwd p.xs 9 48 [] (hdrL p) (macsL p) (hdrL_len p) (fun v hv => ⟨r2 v hv, hgv v hv⟩) (by omega) (by rw [p.xs_len]; simpa using h12) (by simp)]
    rfl
  have hN : rdN (writeL p) = 48 + sizes p.xs := by unfold rdN; rw [hR]
  have hL : (writeL p).length = 48 + p.macN + sizes p.xs := writeL_len p
  have hH : hdP getFG (writeL p) = { p with n1 := none, c1 := false, z1 := 8, es := [], ha := false, ky := 0, n2 := some true, c2 := true, z2 := 0, su := [] } := by rw [ew]; exact hd_write r1 hg
  have hT : p.tot = 48 + p.macN + sizes p.xs := rfl
  have hrest : (writeL p).length - rdN (writeL p) = p.macN := by rw [hN, hL]; omega
  refine ⟨?_, hN, ?_⟩
  · unfold rdA headBad restBad
    rw [hH, hR, hN, hL, decide_eq_false (by omega), decide_eq_false (by omega), h3]
    rw [decide_eq_false (show ¬ p.mo < 1 by omega), decide_eq_false (show ¬ p.mo > 5 by omega), decide_eq_false (show ¬ p.st > 16 by omega), decide_eq_false (show ¬ p.po > 17 by omega), decide_eq_false (by omega)]
    rfl
  · have hdr : (writeL p).drop (48 + sizes p.xs) = macsL p := by
      have : (hdrL p ++ fieldsL p.xs).length = 48 + sizes p.xs := by rw [List.length_append, hdrL_len, fieldsL_len]
      rw [writeL, List.drop_left' this]
    have hdr4 : (writeL p).drop (48 + sizes p.xs + 4) = (macsL p).drop 4 := by rw [← List.drop_drop, hdr]
    unfold okPk
    rw [hrest, hN, hH, hR, hdr4, hdr]
    rcases hm with ⟨m1, m2⟩ | ⟨m1, m2, m3⟩
    · unfold PK.macOK at r3
      rw [m2, cond_false, decide_eq_true_eq] at r3
      have hsu : p.su = [] := List.length_eq_zero_iff.1 r3.2
      rw [m1]
      unfold cpy cpPK
      rw [hsu, r3.1, m2]; rfl
    · unfold macsL
      rw [m2, decide_eq_true (show p.macN ≠ 0 by omega)]
      have e1 : (macL p.ky p.su).take 4 = u8s (be 4 (IntKind.u64.wrap p.ky)) := Eq.trans rfl rfl
      have e2 : (macL p.ky p.su).drop 4 = p.su := Eq.trans rfl rfl
      simp only [PK.rng, Bool.and_eq_true, decide_eq_true_eq] at hg
      simp only [cond_true]
      rw [e1, e2, b4 (by omega)]
      unfold cpy cpPK
      rw [m2]

/-! ### What is read is written -/
theorem take4 {l : List IV} (h : 4 ≤ l.length) : l.take 4 = [nthD l 0, nthD l 1, nthD l 2, nthD l 3] := by
  match l, h with
  | x0 :: x1 :: x2 :: x3 :: r, _ => rfl
theorem take48 (l : List IV) : l.take 48 = l.take 4 ++ (l.drop 4).take 4 ++ (l.drop 8).take 4 ++ (l.drop 12).take 4 ++ (l.drop 16).take 8 ++ (l.drop 24).take 8 ++ (l.drop 32).take 8 ++ (l.drop 40).take 8 := by
  rw [← List.take_add, ← List.take_add, ← List.take_add, ← List.take_add, ← List.take_add, ← List.take_add, ← List.take_add]
theorem rdA_none {l : List IV} (h : rdA l = none) : 48 ≤ l.length ∧ l.length ≤ 8192 ∧ headBad l = false ∧ (hdP getFG l).st ≤ 16 ∧ (hdP getFG l).po ≤ 17 ∧ (rdR l).1 = true ∧ restBad l = false := by
  unfold rdA at h
  by_cases c1 : 8192 < l.length
  · rw [decide_eq_true c1] at h; cases h
  rw [decide_eq_false c1, cond_false] at h
  by_cases c2 : l.length < 48
  · rw [decide_eq_true c2] at h; cases h
  rw [decide_eq_false c2, cond_false] at h
  cases c3 : headBad l
  case true => rw [c3] at h; cases h
  rw [c3, cond_false] at h
  by_cases c4 : (hdP getFG l).st > 16
  · rw [decide_eq_true c4] at h; cases h
  rw [decide_eq_false c4, cond_false] at h
  by_cases c5 : (hdP getFG l).po > 17
  · rw [decide_eq_true c5] at h; cases h
  rw [decide_eq_false c5, cond_false] at h
  cases c6 : (rdR l).1
  · rw [c6] at h; cases h
  rw [c6, Bool.not_true, cond_false] at h
  cases c7 : restBad l
  · exact ⟨by omega, by omega, rfl, by omega, by omega, rfl, rfl⟩
  · rw [c7] at h; cases h
theorem gl {l : List IV} {a b : Nat} (h : b + a ≤ l.length) : ((l.drop b).take a).length = a := by
  simp only [List.length_take, List.length_drop]; omega
theorem g4w {l : List IV} (ho : okB l = true) {b : Nat} (h : b + 4 ≤ l.length) : u8s (be 4 (IntKind.u64.wrap (IntKind.u32.wrap (getFG ((l.drop b).take 4))))) = (l.drop b).take 4 := by
  have h1 := getFG_lt ((l.drop b).take 4)
  rw [gl h] at h1
  have c4 : ((256 ^ 4 : Nat) : Int) = 4294967296 := rfl
  rw [c4] at h1
  rw [w32 (by omega), w64 (by omega), be_get (okB_take (okB_drop ho b) 4) (gl h)]
theorem g8w {l : List IV} (ho : okB l = true) {b : Nat} (h : b + 8 ≤ l.length) : u8s (be 8 (getFG ((l.drop b).take 8))) = (l.drop b).take 8 := be_get (okB_take (okB_drop ho b) 8) (gl h)
theorem wts_sizes (vs : List XV) : wts vs ≤ sizes vs := by
  induction vs with
  | nil => exact Nat.le_refl _
  | cons v vs ih =>
    rw [wts_cons, sizes_cons]
    unfold xsize wt
    omega
theorem read_write {l : List IV} (ho : okB l = true) (hA : rdA l = none) : (okPk l).ok = true ∧ (okPk l).fine = true ∧ (okPk l).right = true ∧ writeL (okPk l) = l := by
  obtain ⟨a1, a2, a3, a4, a5, a6, a7⟩ := rdA_none hA
  have hR : rdL l 9 48 [] = (true, rdN l, (rdR l).2.2) := by rw [← a6]; rfl
  obtain ⟨vs, v1, v2, v3, v4, v5, v6, v7⟩ := rdL_bwd ho 9 48 [] (rdN l) (rdR l).2.2 a1 (by simp) hR
  simp only [List.nil_append] at v1
  have hes : (okPk l).es = vs.map XV.iv := v1
  have hxs : (okPk l).xs = vs := by unfold PK.xs; rw [hes]; exact xs_iv vs
  have hel : (okPk l).es.length ≤ 8 := v7
  have hsu : okB (okPk l).su = true := by
    show okB (bif decide (l.length - rdN l ≠ 0) then l.drop (rdN l + 4) else []) = true
    cases decide (l.length - rdN l ≠ 0)
    · rfl
    · exact okB_drop ho _
  have hsl : (okPk l).su.length ≤ l.length - rdN l := by
    show (bif decide (l.length - rdN l ≠ 0) then l.drop (rdN l + 4) else []).length ≤ _
    cases decide (l.length - rdN l ≠ 0)
    · simp
    · rw [cond_true, List.length_drop]; omega
  have hok : (okPk l).ok = true := by
    refine pok_iff.2 ⟨⟨.inl rfl, .inl rfl, by omega, by omega⟩, hsu, ?_⟩
    rw [hes, List.all_eq_true]
    intro x hx
    obtain ⟨v, hv, rfl⟩ := List.mem_map.1 hx
    rw [isX_iv]
    exact (v2 v hv).1
  have hws := wts_sizes vs
  have hhv : (okPk l).heavy = false := by
    unfold PK.heavy
    rw [hxs, decide_eq_false (by omega), decide_eq_false (by omega)]; rfl
  simp only [restBad, decide_eq_false_iff_not] at a7
  have hrest : l.length - rdN l = 0 ∨ l.length - rdN l = 4 ∨ l.length - rdN l = 20 := by omega
  -- the head
  obtain ⟨n0, p0, q0⟩ := byI_eq ho (i := 0) (by omega)
  obtain ⟨n1, p1, q1⟩ := byI_eq ho (i := 1) (by omega)
  obtain ⟨n2, p2, q2⟩ := byI_eq ho (i := 2) (by omega)
  obtain ⟨n3, p3, q3⟩ := byI_eq ho (i := 3) (by omega)
  have hve : (hdP getFG l).ve = 4 ∧ 1 ≤ (hdP getFG l).mo ∧ (hdP getFG l).mo ≤ 5 := by
    unfold headBad at a3
    by_cases k1 : (hdP getFG l).ve = 4
    · by_cases k2 : (hdP getFG l).mo < 1
      · rw [decide_eq_true k2] at a3; simp at a3
      · by_cases k3 : (hdP getFG l).mo > 5
        · rw [decide_eq_true k3] at a3; simp at a3
        · exact ⟨k1, by omega, by omega⟩
    · have : ((hdP getFG l).ve != 4) = true := by simpa using k1
      rw [this] at a3; simp at a3
  have hb := bits_hd ⟨(byI l 0).toNat, by omega⟩
  have eb : (((byI l 0).toNat : Nat) : Int) = byI l 0 := by omega
  simp only [eb] at hb
  obtain ⟨⟨b1, b2⟩, b3⟩ := hb hve.1
  have e1 : IntKind.u8.wrap (hdP getFG l).st = byI l 1 := by
    show IntKind.u8.wrap (IntKind.i64.wrap (byI l 1)) = _
    rw [wrap_u8, wrap_i64]; omega
  have e2 : IntKind.u8.wrap (hdP getFG l).po = byI l 2 := by
    show IntKind.u8.wrap (IntKind.i64.wrap (byI l 2)) = _
    rw [wrap_u8, wrap_i64]; omega
  have e3 : IntKind.u8.wrap (hdP getFG l).pr = byI l 3 ∧ -128 ≤ (hdP getFG l).pr ∧ (hdP getFG l).pr ≤ 127 := by
    show IntKind.u8.wrap (IntKind.i64.wrap (IntKind.i8.wrap (byI l 3))) = _ ∧ -128 ≤ IntKind.i64.wrap (IntKind.i8.wrap (byI l 3)) ∧ IntKind.i64.wrap (IntKind.i8.wrap (byI l 3)) ≤ 127
    rw [wrap_u8, wrap_i64, wrap_i8]; omega
  have e4 : (hdP getFG l).st = byI l 1 := wi ⟨p1, by omega⟩
  have e5 : (hdP getFG l).po = byI l 2 := wi ⟨p2, by omega⟩
  have hH : hdrL (okPk l) = l.take 48 := by
    show [IV.int .u8 (headN (hdP getFG l)), .int .u8 (IntKind.u8.wrap (hdP getFG l).st), .int .u8 (IntKind.u8.wrap (hdP getFG l).po), .int .u8 (IntKind.u8.wrap (hdP getFG l).pr)] ++
      u8s (be 4 (IntKind.u64.wrap (IntKind.u32.wrap (getFG ((l.drop 4).take 4))))) ++ u8s (be 4 (IntKind.u64.wrap (IntKind.u32.wrap (getFG ((l.drop 8).take 4))))) ++ u8s (be 4 (IntKind.u64.wrap (IntKind.u32.wrap (getFG ((l.drop 12).take 4))))) ++
      u8s (be 8 (getFG ((l.drop 16).take 8))) ++ u8s (be 8 (getFG ((l.drop 24).take 8))) ++ u8s (be 8 (getFG ((l.drop 32).take 8))) ++ u8s (be 8 (getFG ((l.drop 40).take 8))) = _
    have e0 : headN (hdP getFG l) = byI l 0 := b3
    rw [e0, e1, e2, e3.1, ← n0, ← n1, ← n2, ← n3, g4w ho (by omega), g4w ho (by omega), g4w ho (by omega), g8w ho (by omega), g8w ho (by omega), g8w ho (by omega), g8w ho (by omega), take48, take4 (l := l) (by omega)]
  have hM : macsL (okPk l) = l.drop (rdN l) ∧ (okPk l).macOK = true ∧ (okPk l).macN = l.length - rdN l := by
    show (bif decide (l.length - rdN l ≠ 0) then macL (bif decide (l.length - rdN l ≠ 0) then IntKind.u32.wrap (getFG ((l.drop (rdN l)).take 4)) else 0) (bif decide (l.length - rdN l ≠ 0) then l.drop (rdN l + 4) else []) else []) = l.drop (rdN l) ∧
      (bif decide (l.length - rdN l ≠ 0) then decide ((bif decide (l.length - rdN l ≠ 0) then l.drop (rdN l + 4) else []).length = 0 ∨ (bif decide (l.length - rdN l ≠ 0) then l.drop (rdN l + 4) else []).length = 16) else
        decide ((bif decide (l.length - rdN l ≠ 0) then IntKind.u32.wrap (getFG ((l.drop (rdN l)).take 4)) else 0) = 0 ∧ (bif decide (l.length - rdN l ≠ 0) then l.drop (rdN l + 4) else []).length = 0)) = true ∧
      (bif decide (l.length - rdN l ≠ 0) then 4 + (bif decide (l.length - rdN l ≠ 0) then l.drop (rdN l + 4) else []).length else 0) = l.length - rdN l
    by_cases d0 : l.length - rdN l = 0
    · rw [decide_eq_false (show ¬ (l.length - rdN l ≠ 0) by omega)]
      refine ⟨?_, rfl, d0.symm⟩
      rw [cond_false, List.drop_of_length_le (by omega)]
    · rw [decide_eq_true d0]
      simp only [cond_true, List.length_drop, decide_eq_true_eq]
      refine ⟨?_, by omega, by omega⟩
      unfold macL
      rw [g4w ho (by omega), ← List.drop_drop, List.take_append_drop]
  obtain ⟨hM, hMo, hMn⟩ := hM
  refine ⟨hok, ?_, ?_, ?_⟩
  · simp [PK.fine, hok, hhv]
  · have hh : (okPk l).headOK = true := by
      refine decide_eq_true ⟨b1, b2, hve.1, hve.2.1, hve.2.2, ?_, a4, ?_, a5, e3.2.1, e3.2.2, hel⟩
      · show 0 ≤ (hdP getFG l).st; omega
      · show 0 ≤ (hdP getFG l).po; omega
    have hg : (okPk l).xs.all goodX = true := by
      rw [hxs, List.all_eq_true]; exact fun v hv => (v2 v hv).2.1
    have ht : (okPk l).tot ≤ 8192 := by
      unfold PK.tot
      rw [hxs, hMn]; omega
    unfold PK.right
    rw [hh, hg, hMo, decide_eq_true ht]; rfl
  · unfold writeL
    rw [hH, hxs, hM, ← v6, v3, List.append_assoc, ← List.drop_drop, List.take_append_drop, List.take_append_drop]
end
end Go.Proofs.Ytphddjolipaejaa
