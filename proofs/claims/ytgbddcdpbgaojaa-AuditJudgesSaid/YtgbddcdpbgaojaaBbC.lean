/- Fields there and back: plain laws. It bears no condition. -/
import Derived.Test.YtgbddcdpbgaojaaBbB
namespace Go.Proofs.Ytgbddcdpbgaojaa
open Go Go.Im
set_option linter.unusedVariables false
set_option linter.unusedSimpArgs false
set_option maxRecDepth 20000
noncomputable section

def goodX (v : XV) : Bool := decide (1 ≤ v.a ∧ v.a ≤ 63 ∧ 0 ≤ v.d ∧ v.d ≤ 65535 ∧ v.l1.length ≤ 2048 ∧ v.l2.length ≤ 2048)
def XV.rng (v : XV) : Bool := decide (0 ≤ v.ts ∧ v.ts ≤ 4294967295 ∧ 0 ≤ v.fs ∧ v.fs ≤ 4294967295)
def cpX (v : XV) : XV := { v with n1 := none, c1 := false, z1 := 1, n2 := none, c2 := false, z2 := 1 }
theorem good_iff {v : XV} (h : goodX v = true) : 1 ≤ v.a ∧ v.a ≤ 63 ∧ 0 ≤ v.d ∧ v.d ≤ 65535 ∧ v.l1.length ≤ 2048 ∧ v.l2.length ≤ 2048 := by
  simpa only [goodX, decide_eq_true_eq] using h
/-! ### Numbers -/
theorem foldl_num : ∀ (l : List UInt8) (a : Nat), l.foldl (fun n b => n * 256 + b.toNat) a = a * 256 ^ l.length + numL l
  | [], a => by simp [numL]
  | b :: l, a => by
    have h1 := foldl_num l (a * 256 + b.toNat)
    have h2 := foldl_num l (0 * 256 + b.toNat)
    simp only [numL, List.foldl_cons] at h2 ⊢
    simp only [numL] at h1
    rw [h1, h2, List.length_cons, Nat.pow_succ, Nat.zero_mul, Nat.zero_add, Nat.add_mul, Nat.mul_assoc, Nat.mul_comm 256, Nat.add_assoc]
theorem numL_cons (b : UInt8) (l : List UInt8) : numL (b :: l) = b.toNat * 256 ^ l.length + numL l := by
  have := foldl_num l (0 * 256 + b.toNat)
  simp only [numL, List.foldl_cons] at this ⊢
  rw [this, Nat.zero_mul, Nat.zero_add]
theorem byteAt_nat (x i : Nat) : (byteAt (x : Int) i).toNat = x / 256 ^ i % 256 := by
  have h := u8of_toNat ((x : Int) / ((256 ^ i : Nat) : Int))
  have e : (x : Int) / ((256 ^ i : Nat) : Int) % 256 = ((x / 256 ^ i % 256 : Nat) : Int) := by simp
  rw [e] at h
  exact Int.ofNat_inj.1 h
theorem num_be (x : Nat) : ∀ n : Nat, numL (be n (x : Int)) = x % 256 ^ n
  | 0 => by simp [be, numL, Nat.mod_one]
  | n + 1 => by
    rw [be, numL_cons, be_len, num_be x n, byteAt_nat, Nat.pow_succ, Nat.mod_mul, Nat.mul_comm, Nat.add_comm]
theorem numL_inj : ∀ {l m : List UInt8}, l.length = m.length → numL l = numL m → l = m
  | [], [], _, _ => rfl
  | [], _ :: _, h, _ => by cases h
  | _ :: _, [], h, _ => by cases h
  | b :: l, c :: m, h, e => by
    have hl : l.length = m.length := by simpa using h
    rw [numL_cons, numL_cons, hl] at e
    have h1 := numL_lt l
    have h2 := numL_lt m
    rw [hl] at h1
    have hp : 0 < 256 ^ m.length := Nat.lt_of_le_of_lt (Nat.zero_le _) h2
    have e1 : b.toNat = c.toNat := by
      have a1 : (b.toNat * 256 ^ m.length + numL l) / 256 ^ m.length = b.toNat := by rw [Nat.mul_comm, Nat.mul_add_div hp, Nat.div_eq_of_lt h1, Nat.add_zero]
      have a2 : (c.toNat * 256 ^ m.length + numL m) / 256 ^ m.length = c.toNat := by rw [Nat.mul_comm, Nat.mul_add_div hp, Nat.div_eq_of_lt h2, Nat.add_zero]
      rw [← a1, ← a2, e]
    have e2 : numL l = numL m := by rw [e1] at e; exact Nat.add_left_cancel e
    rw [UInt8.toNat_inj.1 e1, numL_inj hl e2]
theorem be_num (l : List UInt8) : be l.length ((numL l : Nat) : Int) = l :=
  numL_inj (be_len _ _) (by rw [num_be, Nat.mod_eq_of_lt (numL_lt l)])
theorem get_be {n : Nat} {x : Int} (h0 : 0 ≤ x) (h1 : x < ((256 ^ n : Nat) : Int)) : getFG (u8s (be n x)) = x := by
  obtain ⟨k, rfl⟩ := Int.eq_ofNat_of_zero_le h0
  unfold getFG
  rw [toBytes_u8s, num_be, Nat.mod_eq_of_lt (Int.ofNat_lt.1 h1)]
theorem be_get {xs : List IV} (ho : okB xs = true) {n : Nat} (hn : xs.length = n) : u8s (be n (getFG xs)) = xs := by
  have h := be_num (toBytes xs)
  rw [toBytes_len, hn] at h
  unfold getFG
  rw [h]
  exact (okB_eq ho).symm
theorem getFG_nat (xs : List IV) : getFG xs = ((numL (toBytes xs) : Nat) : Int) := rfl
theorem getFG_lt (xs : List IV) : 0 ≤ getFG xs ∧ getFG xs < ((256 ^ xs.length : Nat) : Int) := by
  have := numL_lt (toBytes xs)
  rw [toBytes_len] at this
  rw [getFG_nat]
  exact ⟨Int.natCast_nonneg _, Int.ofNat_lt.2 this⟩

/-! ### Rows with their lengths -/
theorem zeroL_eq : ∀ {xs : List IV}, okB xs = true → zeroL xs = true → xs = List.replicate xs.length (.int .u8 0)
  | [], _, _ => rfl
  | x :: xs, ho, hz => by
    simp only [okB, List.all_cons, Bool.and_eq_true] at ho
    simp only [zeroL, List.all_cons, Bool.and_eq_true] at hz
    have ih := zeroL_eq (xs := xs) (by simpa [okB] using ho.2) (by simpa [zeroL] using hz.2)
    have h1 := ho.1
    split at h1
    · rename_i n
      have h2 : n = 0 := by simpa [intOf] using hz.1
      rw [h2, List.length_cons, List.replicate_succ, ← ih]
    · cases h1
theorem zeroL_rep (n : Nat) : zeroL (List.replicate n (.int .u8 0)) = true := by
  simp [zeroL, List.all_eq_true, intOf]
theorem cut_data {v r : List IV} (hl : v.length ≤ 2048) : cutN (dataL v ++ r) = v.length ∧ cutV (dataL v ++ r) = v ∧ cutR (dataL v ++ r) = r ∧ cutOK (dataL v ++ r) = true := by
  have e : dataL v ++ r = u8s (be 4 (v.length : Int)) ++ (v ++ (List.replicate (fillN v.length) (.int .u8 0) ++ r)) := by simp [dataL]
  have h4 : (u8s (be 4 (v.length : Int))).length = 4 := by simp [u8s_len, be_len]
  have hN : cutN (dataL v ++ r) = v.length := by
    unfold cutN
    rw [e, List.take_left' h4, toBytes_u8s, num_be, Nat.mod_eq_of_lt (by omega)]
  have hD : (dataL v ++ r).drop 4 = v ++ (List.replicate (fillN v.length) (.int .u8 0) ++ r) := by rw [e, List.drop_left' h4]
  have hV : cutV (dataL v ++ r) = v := by
    unfold cutV
    rw [hN, hD, List.take_left' rfl]
  have hE : ((dataL v ++ r).drop 4).drop v.length = List.replicate (fillN v.length) (.int .u8 0) ++ r := by rw [hD, List.drop_left' rfl]
  have hR : cutR (dataL v ++ r) = r := by
    unfold cutR
    rw [hN, ← List.drop_drop, hE, List.drop_left' (by simp)]
  refine ⟨hN, hV, hR, ?_⟩
  unfold cutOK cutF
  rw [hN, hE, List.take_left' (by simp), zeroL_rep, Bool.and_true, decide_eq_true_eq, List.length_append, dataL_len]
  omega
theorem okB_rep (n : Nat) : okB (List.replicate n (.int .u8 0)) = true := by
  simp [okB, List.all_eq_true]
theorem data_cut {l : List IV} (ho : okB l = true) (h : cutOK l = true) : l = dataL (cutV l) ++ cutR l ∧ (cutV l).length ≤ 2048 ∧ okB (cutV l) = true ∧ okB (cutR l) = true := by
  unfold cutOK at h
  simp only [Bool.and_eq_true, decide_eq_true_eq] at h
  obtain ⟨⟨h4, h5, h6⟩, hz⟩ := h
  have hv : (cutV l).length = cutN l := by
    simp only [cutV, List.length_take, List.length_drop]; omega
  have hF : (cutF l).length = fillN (cutN l) := by
    simp only [cutF, List.length_take, List.length_drop]; omega
  have e1 : u8s (be 4 ((cutN l : Nat) : Int)) = l.take 4 := by
    have := be_get (okB_take ho 4) (n := 4) (by simp; omega)
    rwa [getFG_nat] at this
  have e2 : cutF l = List.replicate (fillN (cutN l)) (.int .u8 0) := by
    have := zeroL_eq (xs := cutF l) (okB_take (okB_drop (okB_drop ho 4) _) _) hz
    rwa [hF] at this
  refine ⟨?_, by omega, okB_take (okB_drop ho 4) _, okB_drop (okB_drop ho 4) _⟩
  unfold dataL
  rw [hv, e1, ← e2]
  have a1 : cutF l ++ cutR l = (l.drop 4).drop (cutN l) := by
    unfold cutF cutR
    rw [← List.drop_drop, List.take_append_drop]
  have a2 : cutV l ++ (l.drop 4).drop (cutN l) = l.drop 4 := List.take_append_drop _ _
  rw [List.append_assoc, List.append_assoc, a1, a2, List.take_append_drop]


theorem fst_bits : ∀ (b c : Bool) (a : Fin 64), IntKind.i64.wrap (ibits .and .u8 (((a.val : Nat) : Int) + (bif b then 128 else 0) + (bif c then 64 else 0)) 63) = ((a.val : Nat) : Int) ∧
    (ibits .and .u8 (((a.val : Nat) : Int) + (bif b then 128 else 0) + (bif c then 64 else 0)) 128 != 0) = b ∧ (ibits .and .u8 (((a.val : Nat) : Int) + (bif b then 128 else 0) + (bif c then 64 else 0)) 64 != 0) = c := by decide +kernel
theorem bits_fst : ∀ n : Fin 256, (0 ≤ IntKind.i64.wrap (ibits .and .u8 ((n.val : Nat) : Int) 63) ∧ IntKind.i64.wrap (ibits .and .u8 ((n.val : Nat) : Int) 63) ≤ 63) ∧
    IntKind.i64.wrap (ibits .and .u8 ((n.val : Nat) : Int) 63) + (bif ibits .and .u8 ((n.val : Nat) : Int) 128 != 0 then 128 else 0) + (bif ibits .and .u8 ((n.val : Nat) : Int) 64 != 0 then 64 else 0) = ((n.val : Nat) : Int) := by decide +kernel
theorem fst8_bits {v : XV} (h : 0 ≤ v.a ∧ v.a ≤ 63) : IntKind.i64.wrap (ibits .and .u8 (fst8 v) 63) = v.a ∧ (ibits .and .u8 (fst8 v) 128 != 0) = v.b ∧ (ibits .and .u8 (fst8 v) 64 != 0) = v.c := by
  have := fst_bits v.b v.c ⟨v.a.toNat, by omega⟩
  have e : ((v.a.toNat : Nat) : Int) = v.a := by omega
  simp only [e] at this
  exact this
theorem cpX_eq {v : XV} {a d ts fs : Int} {b c : Bool} {l1 l2 : List IV} (h1 : a = v.a) (h2 : b = v.b) (h3 : c = v.c) (h4 : d = v.d) (h5 : ts = v.ts) (h6 : fs = v.fs) (h7 : l1 = v.l1) (h8 : l2 = v.l2) :
    (⟨a, b, c, d, ts, fs, none, false, 1, l1, none, false, 1, l2⟩ : XV) = cpX v := by
  subst h1 h2 h3 h4 h5 h6 h7 h8; rfl
theorem fd_0 (v : XV) : byI (fieldL v) 0 = fst8 v := Eq.trans rfl rfl
theorem fd_1 (v : XV) : byI (fieldL v) 1 = 0 := Eq.trans rfl rfl
theorem fd_6 (v : XV) : byI (fieldL v) 6 = 0 := Eq.trans rfl rfl
theorem fd_7 (v : XV) : byI (fieldL v) 7 = 0 := Eq.trans rfl rfl
theorem fd_d (v : XV) : ((fieldL v).drop 4).take 2 = u8s (be 2 (IntKind.u64.wrap v.d)) := Eq.trans rfl rfl
theorem fd_ts (v : XV) : ((fieldL v).drop 8).take 4 = u8s (be 4 (IntKind.u64.wrap v.ts)) := Eq.trans rfl rfl
theorem fd_fs (v : XV) : ((fieldL v).drop 12).take 4 = u8s (be 4 (IntKind.u64.wrap v.fs)) := Eq.trans rfl rfl
theorem fd_16 (v : XV) : (fieldL v).drop 16 = dataL v.l1 ++ (dataL v.l2 ++ []) := by rw [List.append_nil]; exact Eq.trans rfl rfl
theorem w64 {x : Int} (h : 0 ≤ x ∧ x ≤ 18446744073709551615) : IntKind.u64.wrap x = x := by rw [wrap_u64]; omega
theorem w32 {x : Int} (h : 0 ≤ x ∧ x ≤ 4294967295) : IntKind.u32.wrap x = x := by rw [wrap_u32]; omega
theorem wi {x : Int} (h : 0 ≤ x ∧ x ≤ 9223372036854775807) : IntKind.i64.wrap x = x := by rw [wrap_i64]; omega
theorem field_read {v : XV} (hg : goodX v = true) (hr : v.rng = true) : okR (fieldL v) = true ∧ xR (fieldL v) = cpX v := by
  obtain ⟨g1, g2, g3, g4, g5, g6⟩ := good_iff hg
  simp only [XV.rng, decide_eq_true_eq] at hr
  obtain ⟨r1, r2, r3, r4⟩ := hr
  obtain ⟨b1, b2, b3⟩ := fst8_bits (v := v) ⟨by omega, g2⟩
  obtain ⟨-, c2, c3, c4⟩ := cut_data (v := v.l1) (r := dataL v.l2 ++ []) g5
  obtain ⟨-, d2, d3, d4⟩ := cut_data (v := v.l2) (r := []) g6
  have hb : badR (fieldL v) = false := by
    simp only [badR, fd_0, fd_1, fd_6, fd_7, b1, Bool.or_eq_false_iff, bne_self_eq_false, beq_eq_false_iff_ne, ne_eq, true_and]
    omega
  refine ⟨?_, ?_⟩
  · unfold okR
    rw [hb, fd_16, c4, c3, d4, d3]
    rfl
  · unfold xR hdX valR sigR
    rw [hb, fd_0, fd_d, fd_ts, fd_fs, fd_16, c4, c3, d4, c2, d2, b1, b2, b3]
    refine cpX_eq rfl rfl rfl ?_ ?_ ?_ rfl rfl
    · rw [w64 (by omega), get_be g3 (by show v.d < ((65536 : Nat) : Int); omega), wi (by omega)]
    · rw [w64 (by omega), get_be r1 (by show v.ts < ((4294967296 : Nat) : Int); omega), w32 (by omega)]
    · rw [w64 (by omega), get_be r3 (by show v.fs < ((4294967296 : Nat) : Int); omega), w32 (by omega)]
theorem okR_iff {x : List IV} (h : okR x = true) : badR x = false ∧ cutOK (x.drop 16) = true ∧ cutOK (cutR (x.drop 16)) = true ∧ cutR (cutR (x.drop 16)) = [] := by
  unfold okR at h
  simp only [Bool.and_eq_true, Bool.not_eq_true', decide_eq_true_eq] at h
  exact ⟨h.1.1.1, h.1.1.2, h.1.2, List.length_eq_zero_iff.1 h.2⟩
theorem split16 {x : List IV} (h : 16 ≤ x.length) : x = [nthD x 0, nthD x 1] ++ (x.drop 2).take 2 ++ (x.drop 4).take 2 ++ [nthD x 6, nthD x 7] ++ (x.drop 8).take 4 ++ (x.drop 12).take 4 ++ x.drop 16 := by
  match x, h with
  | x0 :: x1 :: x2 :: x3 :: x4 :: x5 :: x6 :: x7 :: x8 :: x9 :: x10 :: x11 :: x12 :: x13 :: x14 :: x15 :: r, _ => rfl
theorem byI_eq {x : List IV} (ho : okB x = true) {i : Nat} (hi : i < x.length) : nthD x i = .int .u8 (byI x i) ∧ 0 ≤ byI x i ∧ byI x i < 256 := by
  obtain ⟨n, hn, hl⟩ := okB_nth ho hi
  have e : byI x i = (n : Int) := by unfold byI; rw [nthD_get hi, hn]; rfl
  rw [e, nthD_get hi, hn]
  exact ⟨rfl, by omega, by omega⟩
theorem read_field {x : List IV} (ho : okB x = true) (h16 : 16 ≤ x.length) (hx : okR x = true) (hn : (x.drop 2).take 2 = u8s (be 2 (x.length : Nat))) :
    fieldL (xR x) = x ∧ (xR x).ok = true ∧ goodX (xR x) = true ∧ (xR x).rng = true ∧ xsize (xR x) = x.length := by
  obtain ⟨hb, k1, k2, k3⟩ := okR_iff hx
  have o16 : okB (x.drop 16) = true := okB_drop ho 16
  obtain ⟨e1, v1, v2, v3⟩ := data_cut o16 k1
  obtain ⟨e2, w1, w2, w3⟩ := data_cut v3 k2
  rw [k3, List.append_nil] at e2
  have hV : valR x = cutV (x.drop 16) := by unfold valR; rw [hb, k1]; rfl
  have hS : sigR x = cutV (cutR (x.drop 16)) := by unfold sigR; rw [hb, k1, k2]; rfl
  obtain ⟨n0, p0, q0⟩ := byI_eq ho (i := 0) (by omega)
  obtain ⟨n1, p1, q1⟩ := byI_eq ho (i := 1) (by omega)
  obtain ⟨n6, p6, q6⟩ := byI_eq ho (i := 6) (by omega)
  obtain ⟨n7, p7, q7⟩ := byI_eq ho (i := 7) (by omega)
  have hb' : byI x 1 = 0 ∧ byI x 6 = 0 ∧ byI x 7 = 0 ∧ ¬ IntKind.i64.wrap (ibits .and .u8 (byI x 0) 63) = 0 := by
    simpa only [badR, Bool.or_eq_false_iff, bne_eq_false_iff_eq, beq_eq_false_iff_ne, ne_eq, and_assoc] using hb
  obtain ⟨z1, z6, z7, za⟩ := hb'
  have hbits := bits_fst ⟨(byI x 0).toNat, by omega⟩
  have eb : (((byI x 0).toNat : Nat) : Int) = byI x 0 := by omega
  simp only [eb] at hbits
  obtain ⟨⟨m1, m2⟩, m3⟩ := hbits
  have f8 : fst8 (xR x) = byI x 0 := m3
  have ga : ∀ a b, a ≤ 8 → 16 ≤ b + a ∨ b + a ≤ 16 → b + a ≤ x.length → ((x.drop b).take a).length = a := by
    intro a b _ _ h
    simp only [List.length_take, List.length_drop]; omega
  have g4 := getFG_lt ((x.drop 4).take 2)
  have g8 := getFG_lt ((x.drop 8).take 4)
  have g12 := getFG_lt ((x.drop 12).take 4)
  rw [ga 2 4 (by omega) (by omega) (by omega)] at g4
  rw [ga 4 8 (by omega) (by omega) (by omega)] at g8
  rw [ga 4 12 (by omega) (by omega) (by omega)] at g12
  have c2 : ((256 ^ 2 : Nat) : Int) = 65536 := rfl
  have c4 : ((256 ^ 4 : Nat) : Int) = 4294967296 := rfl
  rw [c2] at g4
  rw [c4] at g8 g12
  have hd : (xR x).d = getFG ((x.drop 4).take 2) := wi (by omega)
  have hts : (xR x).ts = getFG ((x.drop 8).take 4) := w32 (by omega)
  have hfs : (xR x).fs = getFG ((x.drop 12).take 4) := w32 (by omega)
  have l1 : (xR x).l1 = cutV (x.drop 16) := hV
  have l2 : (xR x).l2 = cutV (cutR (x.drop 16)) := hS
  have hsz : xsize (xR x) = x.length := by
    have h1 := congrArg List.length e1
    have h2 := congrArg List.length e2
    rw [List.length_append, dataL_len, List.length_drop] at h1
    rw [dataL_len] at h2
    unfold xsize
    rw [l1, l2]
    omega
  have ha : (xR x).a = IntKind.i64.wrap (ibits .and .u8 (byI x 0) 63) := rfl
  refine ⟨?_, ?_, ?_, ?_, hsz⟩
  · unfold fieldL
    rw [f8, hsz, ← hn, hd, hts, hfs, l1, l2, w64 (by omega), w64 (by omega), w64 (by omega), be_get (okB_take (okB_drop ho 4) 2) (ga 2 4 (by omega) (by omega) (by omega)),
      be_get (okB_take (okB_drop ho 8) 4) (ga 4 8 (by omega) (by omega) (by omega)), be_get (okB_take (okB_drop ho 12) 4) (ga 4 12 (by omega) (by omega) (by omega))]
    conv => rhs; rw [split16 h16, n0, n1, n6, n7, z1, z6, z7, e1, e2]
    rw [List.append_assoc _ (dataL _) (dataL _)]
  · rw [ok_iff, l1, l2]
    exact ⟨⟨.inl rfl, .inl rfl, by omega, by omega⟩, v2, w2⟩
  · simp only [goodX, decide_eq_true_eq]
    rw [ha, hd, l1, l2]
    exact ⟨by omega, m2, g4.1, by omega, v1, w1⟩
  · simp only [XV.rng, decide_eq_true_eq]
    rw [hts, hfs]
    omega
end
end Go.Proofs.Ytgbddcdpbgaojaa
