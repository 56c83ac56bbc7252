/- Values back as natural numbers. It bears no condition. -/
import Derived.Test.YtolpgbgmldpneaaDuI
namespace Go.Proofs.Ytolpgbgmldpneaa
open Go Go.Im
set_option linter.unusedVariables false
set_option linter.unusedSimpArgs false
set_option maxRecDepth 20000
noncomputable section

/-! ### Numbers of bytes, from the end on -/
theorem num_tail {b : List UInt8} {i : Nat} (h : i < b.length) : numL (b.drop (b.length - (i + 1))) = (b[b.length - 1 - i]'(by omega)).toNat * 256 ^ i + numL (b.drop (b.length - i)) := by
  have e : b.drop (b.length - (i + 1)) = b[b.length - 1 - i]'(by omega) :: b.drop (b.length - i) := by
    rw [show b.length - i = b.length - 1 - i + 1 by omega, show b.length - (i + 1) = b.length - 1 - i by omega]
    exact List.drop_eq_getElem_cons (by omega)
  rw [e, num_cons, List.length_drop, show b.length - (b.length - i) = i by omega]
theorem tail_lt {b : List UInt8} {i : Nat} (h : i ≤ b.length) : numL (b.drop (b.length - i)) < 256 ^ i := by
  have := numL_lt (b.drop (b.length - i))
  rw [List.length_drop, show b.length - (b.length - i) = i by omega] at this
  exact this
theorem limb_small8 {L : List Nat} (ho : okL L) {i : Nat} (h : i / 8 < L.length) (hv : valL L < 256 ^ i) : L[i / 8] < 256 ^ (i % 8) := by
  rw [limb_at ho h]
  refine Nat.lt_of_le_of_lt (Nat.mod_le _ _) ((Nat.div_lt_iff_lt_mul (Nat.pow_pos (by decide))).2 ?_)
  rw [show (18446744073709551616 : Nat) = 256 ^ 8 from rfl, ← Nat.pow_mul, ← Nat.pow_add, show i % 8 + 8 * (i / 8) = i by omega]
  exact hv
theorem shl_byte {b : UInt8} {r : Nat} (h : r < 8) : IntKind.u64.wrap (IntKind.u64.wrap (b.toNat : Int) * (2 : Int) ^ min (8 * r) 64) = ((b.toNat * 256 ^ r : Nat) : Int) := by
  have hb := b.toNat_lt
  have hp : 256 ^ r ≤ 256 ^ 7 := Nat.pow_le_pow_right (by decide) (by omega)
  have hm : b.toNat * 256 ^ r ≤ 255 * 256 ^ 7 := Nat.mul_le_mul (by omega) hp
  rw [wu_nat (a := b.toNat) (by omega), show min (8 * r) 64 = 8 * r by omega, show ((2 : Int) ^ (8 * r)) = ((256 ^ r : Nat) : Int) by rw [← pow8, Int.natCast_pow]; rfl, ← Int.natCast_mul, wu_nat (by omega)]
/-- What comes of a limb that gets a byte more. -/
theorem byte_set {L : List Nat} (ho : okL L) {i : Nat} (hj : i / 8 < L.length) {b : List UInt8} (hi : i < b.length) (hv : valL L = numL (b.drop (b.length - i))) :
    L[i / 8] < 256 ^ (i % 8) ∧ L[i / 8] + (b[b.length - 1 - i]'(by omega)).toNat * 256 ^ (i % 8) < 18446744073709551616 ∧ okL (L.set (i / 8) (L[i / 8] + (b[b.length - 1 - i]'(by omega)).toNat * 256 ^ (i % 8))) ∧
      valL (L.set (i / 8) (L[i / 8] + (b[b.length - 1 - i]'(by omega)).toNat * 256 ^ (i % 8))) = numL (b.drop (b.length - (i + 1))) := by
  have hlt := tail_lt (b := b) (i := i) (by omega)
  have hs := limb_small8 (i := i) ho hj (by rw [hv]; exact hlt)
  have hb := (b[b.length - 1 - i]'(by omega)).toNat_lt
  have hp : 256 ^ (i % 8) ≤ 256 ^ 7 := Nat.pow_le_pow_right (by decide) (by omega)
  have hm : ((b[b.length - 1 - i]'(by omega)).toNat + 1) * 256 ^ (i % 8) ≤ 256 * 256 ^ (i % 8) := Nat.mul_le_mul_right _ (by omega)
  rw [Nat.add_mul] at hm
  refine ⟨hs, by omega, okL_set ho (by omega), ?_⟩
  rw [valL_set hj, hv, num_tail hi, show (18446744073709551616 : Nat) = 256 ^ 8 from rfl, ← Nat.pow_mul, Nat.mul_left_comm, ← Nat.pow_add, show 8 * (i / 8) + i % 8 = i by omega]
  omega
theorem nof_runs {sp : FuncId → Option SpecF} {b : List UInt8} (hb : b.length ≤ 140737488355328) {nl : Option Bool} {cl : Bool} : ∀ (m i : Nat) (L : List Nat), i + m = b.length → okL L → L.length = (b.length + 7) / 8 → valL L = numL (b.drop (b.length - i)) →
    ∃ L', Runs Try.prog hint (acall Try.prog hint (ovrOf sp)) 0 (hint.kp 26) (loopAt Try.prog 26 1018) (Sx 26 [.fsl nl cl 1 (u8s b), .osl 0 0, .int .i64 (b.length : Int), .int .i64 (i : Int)] [.row 0 false 1 (w64s L)]) (.exit 0)
      (Sx 26 [.fsl nl cl 1 (u8s b), .osl 0 0, .int .i64 (b.length : Int), .int .i64 (b.length : Int)] [.row 0 false 1 (w64s L')]) ∧ okL L' ∧ L'.length = (b.length + 7) / 8 ∧ valL L' = numL b
  | 0, i, L, h, h1, h2, h3 => by
    obtain rfl : i = b.length := by omega
    rw [Nat.sub_self, List.drop_zero] at h3
    have hr := nof_in sp nl cl (u8s b) (w64s L) b.length b.length
    exact ⟨L, Runs.last (n := 30) (ls := fun _ _ => none) loops_none inner0 (by simp) (hr.trans (bif_stepF (decide_eq_false (by omega)) rfl)), h1, h2, h3⟩
  | m + 1, i, L, h, h1, h2, h3 => by
    have hi : i < b.length := by omega
    have hj : i / 8 < L.length := by omega
    obtain ⟨c1, c2, c3, c4⟩ := byte_set h1 hj hi h3
    have hr := nof_in sp nl cl (u8s b) (w64s L) b.length i
    have w1 : IntKind.i64.wrap (IntKind.i64.wrap ((b.length : Int) - 1) - (i : Int)) = ((b.length - 1 - i : Nat) : Int) := by
      rw [wsub1 (by omega), show (b.length : Int) - 1 = ((b.length - 1 : Nat) : Int) by omega, wsub (by omega) (by omega)]
    rw [tdiv8, tmod8, wi_nat (a := i / 8) (by omega), wmul8 (a := i % 8) (by omega), u8s_len, w1, Int.toNat_natCast, Int.toNat_natCast, Int.toNat_natCast, u8s_at (by omega), cellI', intI', w64s_nth hj, cell_drop, intI', setInt, shl_byte (by omega), wadd1 (by omega), w64s_len] at hr
    have hor : ibits BinOp.or IntKind.u64 (L[i / 8] : Int) (((b[b.length - 1 - i]'(by omega)).toNat * 256 ^ (i % 8) : Nat) : Int) = ((L[i / 8] + (b[b.length - 1 - i]'(by omega)).toNat * 256 ^ (i % 8) : Nat) : Int) := by
      have := or_u64 (a := (b[b.length - 1 - i]'(by omega)).toNat) (b := L[i / 8]) (k := 8 * (i % 8)) (by rw [pow8]; exact c1) (by rw [pow8]; omega)
      rw [pow8] at this
      rw [or_comm64, this, Nat.add_comm]
    rw [hor, w64s_set] at hr
    obtain ⟨L', ih, i1, i2, i3⟩ := nof_runs (sp := sp) hb (nl := nl) (cl := cl) m (i + 1) _ (by omega) c3 (by rw [List.length_set]; exact h2) c4
    exact ⟨L', Runs.step (n := 30) (ls := fun _ _ => none) loops_none inner0 (hr.trans (bif_step (decide_eq_true (by omega)) (bif_step (decide_eq_true (by omega)) (bif_step (decide_eq_true (by omega)) (bif_step isOf_int (bif_step (decide_eq_true ⟨rfl, by omega, by omega⟩) (bif_step isOf_int (bif_step (decide_eq_true (by omega)) (bif_step (decide_eq_true (by omega)) (bif_step (decide_eq_true (by omega)) rfl)))))))))) ih, i1, i2, i3⟩
theorem rnof_runs {sp : FuncId → Option SpecF} {b : List UInt8} (hb : b.length ≤ 140737488355320) {tg : Int} {n1 n2 : Option Bool} {c1 c2 : Bool} {z2 : Nat} {ks : List IV} : ∀ (m i : Nat) (L : List Nat), i + m = b.length → okL L → L.length = (i + 7) / 8 → valL L = numL (b.drop (b.length - i)) →
    ∃ L', Runs Try.prog hint (acall Try.prog hint (ovrOf sp)) 0 (hint.kp 27) (loopAt Try.prog 27 250) (Sx 27 [.ptr 0 0, .osl 1 0, .int .i64 (i : Int)] [.var false [.int .i64 tg, .fsl n1 c1 1 (u8s b), .fsl n2 c2 z2 ks], .row 0 false 1 (w64s L)]) (.exit 0)
      (Sx 27 [.ptr 0 0, .osl 1 0, .int .i64 (b.length : Int)] [.var false [.int .i64 tg, .fsl n1 c1 1 (u8s b), .fsl n2 c2 z2 ks], .row 0 false 1 (w64s L')]) ∧ okL L' ∧ L'.length = (b.length + 7) / 8 ∧ valL L' = numL b
  | 0, i, L, h, h1, h2, h3 => by
    obtain rfl : i = b.length := by omega
    rw [Nat.sub_self, List.drop_zero] at h3
    have hr := rnof_in sp tg n1 c1 1 (u8s b) n2 c2 z2 ks (w64s L) b.length
    rw [u8s_len] at hr
    exact ⟨L, Runs.last (n := 30) (ls := fun _ _ => none) loops_none inner0 (by simp) (hr.trans (bif_stepF (decide_eq_false (by omega)) rfl)), h1, h2, h3⟩
  | m + 1, i, L, h, h1, h2, h3 => by
    have hi : i < b.length := by omega
    have hr := rnof_in sp tg n1 c1 1 (u8s b) n2 c2 z2 ks (w64s L) i
    have w1 : IntKind.i64.wrap (IntKind.i64.wrap ((b.length : Int) - 1) - (i : Int)) = ((b.length - 1 - i : Nat) : Int) := by
      rw [wsub1 (by omega), show (b.length : Int) - 1 = ((b.length - 1 : Nat) : Int) by omega, wsub (by omega) (by omega)]
    rw [tdiv8, tmod8, wi_nat (a := i / 8) (by omega), wmul8 (a := i % 8) (by omega), wu_nat (a := 8 * (i % 8)) (by omega), u8s_len, w1, Int.toNat_natCast, Int.toNat_natCast, Int.toNat_natCast, u8s_at (by omega), cellI', intI', shl_byte (by omega), wadd1 (by omega), show [IV.int .u64 0] = w64s [0] from rfl, ← w64s_app] at hr
    replace hr := fun r q => hr.trans (bif_step (r := r) (decide_eq_true (by omega)) q)
    by_cases h8 : i % 8 = 0
    · have g1 : okL (L ++ [0]) := okL_app h1 (okL_cons.2 ⟨by decide, okL_nil⟩)
      have g2 : (L ++ [0]).length = i / 8 + 1 := by rw [List.length_append, List.length_singleton]; omega
      have hj : i / 8 < (L ++ [0]).length := by omega
      obtain ⟨d1, d2, d3, d4⟩ := byte_set g1 hj hi (by rw [valL_zero]; exact h3)
      rw [w64s_nth hj, cell_drop, intI', setInt, w64s_len, w64s_len, g2, wadd' d2, w64s_set] at hr
      obtain ⟨L', ih, i1, i2, i3⟩ := rnof_runs (sp := sp) hb (tg := tg) (n1 := n1) (n2 := n2) (c1 := c1) (c2 := c2) (z2 := z2) (ks := ks) m (i + 1) _ (by omega) d3 (by rw [List.length_set, g2]; omega) d4
      exact ⟨L', Runs.step (n := 30) (ls := fun _ _ => none) loops_none inner0 (hr _ (bif_step (by rw [h8]; rfl) (bif_step (decide_eq_true (by rw [roomB_nat, maxLen_val]; omega)) (bif_step (decide_eq_true (by omega)) (bif_step (decide_eq_true (by omega)) (bif_step isOf_int (bif_step (decide_eq_true ⟨rfl, by omega, by omega⟩) (bif_step isOf_int (bif_step (decide_eq_true (by omega)) (bif_step (decide_eq_true (by omega)) (bif_step (decide_eq_true (by omega)) rfl))))))))))) ih, i1, i2, i3⟩
    · have g2 : L.length = i / 8 + 1 := by omega
      have hj : i / 8 < L.length := by omega
      obtain ⟨d1, d2, d3, d4⟩ := byte_set h1 hj hi h3
      rw [w64s_nth hj, cell_drop, intI', setInt, w64s_len, g2, wadd' d2, w64s_set] at hr
      obtain ⟨L', ih, i1, i2, i3⟩ := rnof_runs (sp := sp) hb (tg := tg) (n1 := n1) (n2 := n2) (c1 := c1) (c2 := c2) (z2 := z2) (ks := ks) m (i + 1) _ (by omega) d3 (by rw [List.length_set, g2]; omega) d4
      exact ⟨L', Runs.step (n := 30) (ls := fun _ _ => none) loops_none inner0 (hr _ (bif_stepF (beq_eq_false_iff_ne.2 (by omega)) (bif_step (decide_eq_true (by omega)) (bif_step (decide_eq_true (by omega)) (bif_step isOf_int (bif_step (decide_eq_true ⟨rfl, by omega, by omega⟩) (bif_step isOf_int (bif_step (decide_eq_true (by omega)) (bif_step (decide_eq_true (by omega)) (bif_step (decide_eq_true (by omega)) rfl)))))))))) ih, i1, i2, i3⟩
abbrev st7 (tg : Int) (n1 : Option Bool) (c1 : Bool) (b : List UInt8) (n2 : Option Bool) (c2 : Bool) (z2 : Nat) (ks : List IV) (s : IV) (x : Int) (L : List Nat) : St := Sx 27 [.ptr 0 0, s, .int .i64 x] [.var false [.int .i64 tg, .fsl n1 c1 1 (u8s b), .fsl n2 c2 z2 ks], .row 0 false 1 (w64s L)]
theorem st7_runs {sp : FuncId → Option SpecF} {L : List Nat} (hL : L.length ≤ 140737488355328) {tg : Int} {b : List UInt8} {n1 n2 : Option Bool} {c1 c2 : Bool} {z2 : Nat} {ks : List IV} {x : Int} : ∀ n : Nat, n ≤ L.length → (trimL L).length ≤ n →
    Runs Try.prog hint (acall Try.prog hint (ovrOf sp)) 0 (hint.kp 27) (loopAt Try.prog 27 252) (st7 tg n1 c1 b n2 c2 z2 ks (.vsl 1 0 0 n) x L) (.exit 2) (st7 tg n1 c1 b n2 c2 z2 ks (.vsl 1 0 0 (trimL L).length) x L)
  | 0, h1, h2 => by
    have hr := rnof_st2 sp tg n1 c1 1 (u8s b) n2 c2 z2 ks (w64s L) x 0
    rw [show (trimL L).length = 0 by omega]
    exact Runs.last (n := 30) (ls := fun _ _ => none) loops_none inner0 (by simp) (hr.trans (bif_stepF rfl rfl))
  | n + 1, h1, h2 => by
    have hn : n < L.length := by omega
    have hr := rnof_st2 sp tg n1 c1 1 (u8s b) n2 c2 z2 ks (w64s L) x (n + 1)
    rw [wsub1 (by omega), show ((n + 1 : Nat) : Int) - 1 = (n : Int) by omega, Int.toNat_natCast, Nat.zero_add, w64s_nth hn, cell_drop, intI', w64s_len, and_beq, Nat.sub_zero] at hr
    replace hr := fun r q => hr.trans (bif_step (r := r) (by rw [decide_eq_true (by omega)]; rfl) (bif_step (decide_eq_true (by omega)) (bif_step (decide_eq_true (by omega)) (bif_step isOf_int q))))
    by_cases h0 : L[n] = 0
    · have hlt : (trimL L).length ≤ n := by
        by_cases he : (trimL L).length = n + 1
        · exact absurd h0 (trimL_last L n he _ (List.getElem?_eq_getElem hn))
        · omega
      exact Runs.step (n := 30) (ls := fun _ _ => none) loops_none inner0 (hr _ (bif_step (decide_eq_true h0) (bif_step (decide_eq_true (by omega)) rfl))) (st7_runs hL n (by omega) hlt)
    · have he : (trimL L).length = n + 1 := by
        by_cases he : (trimL L).length ≤ n
        · exact absurd (trimL_above L n he hn) h0
        · omega
      rw [he]
      exact Runs.last (n := 30) (ls := fun _ _ => none) loops_none inner0 (by simp) (hr _ (bif_stepF (decide_eq_false h0) rfl))
theorem st7_start {sp : FuncId → Option SpecF} {L : List Nat} (hL : L.length ≤ 140737488355328) {tg : Int} {b : List UInt8} {n1 n2 : Option Bool} {c1 c2 : Bool} {z2 : Nat} {ks : List IV} {x : Int} :
    Runs Try.prog hint (acall Try.prog hint (ovrOf sp)) 0 (hint.kp 27) (loopAt Try.prog 27 252) (st7 tg n1 c1 b n2 c2 z2 ks (.osl 1 0) x L) (.exit 2) (st7 tg n1 c1 b n2 c2 z2 ks (if (trimL L).length = L.length then .osl 1 0 else .vsl 1 0 0 (trimL L).length) x L) := by
  have hr := rnof_st1 sp tg n1 c1 1 (u8s b) n2 c2 z2 ks (w64s L) x
  have hle := trimL_le L
  by_cases h0 : L.length = 0
  · rw [if_pos (by omega)]
    exact Runs.last (n := 30) (ls := fun _ _ => none) loops_none inner0 (by simp) (hr.trans (bif_stepF (by rw [w64s_len, decide_eq_false (by omega)]; rfl) rfl))
  · obtain ⟨n, hn⟩ : ∃ n, L.length = n + 1 := ⟨L.length - 1, by omega⟩
    have hn' : n < L.length := by omega
    rw [w64s_len, wsub1 (by omega), show (L.length : Int) - 1 = (n : Int) by omega, Int.toNat_natCast, w64s_nth hn', cell_drop, intI', and_beq, Nat.sub_zero] at hr
    replace hr := fun r q => hr.trans (bif_step (r := r) (by rw [decide_eq_true (by omega)]; rfl) (bif_step (decide_eq_true (by omega)) (bif_step (decide_eq_true (by omega)) (bif_step isOf_int q))))
    by_cases h0 : L[n] = 0
    · have hlt : (trimL L).length ≤ n := by
        by_cases he : (trimL L).length = n + 1
        · exact absurd h0 (trimL_last L n he _ (List.getElem?_eq_getElem hn'))
        · omega
      rw [if_neg (by omega)]
      exact Runs.step (n := 30) (ls := fun _ _ => none) loops_none inner0 (hr _ (bif_step (decide_eq_true h0) (bif_step (decide_eq_true (by omega)) rfl))) (st7_runs hL n (by omega) hlt)
    · have he : (trimL L).length = n + 1 := by
        by_cases he : (trimL L).length ≤ n
        · exact absurd (trimL_above L n he hn') h0
        · omega
      rw [if_pos (by omega)]
      exact Runs.last (n := 30) (ls := fun _ _ => none) loops_none inner0 (by simp) (hr _ (bif_stepF (decide_eq_false h0) rfl))

/-! ### The contracts -/
def nfP (c : IV → Bool) (gv : IV → List IV) (ge : IV → Int) : SpecF := fun us T => match us, T with
  | [.agg [.int .i64 t, .fsl n1 c1 z1 bs, .fsl n2 c2 z2 ks]], [] => [(c (ndV t n1 c1 z1 bs n2 c2 z2 ks), .tup [.fsl none false 1 (gv (ndV t n1 c1 z1 bs n2 c2 z2 ks)), .int .i64 (ge (ndV t n1 c1 z1 bs n2 c2 z2 ks))], [])]
  | _, _ => []
def gNe (x : IV) : Int := bif (ndOf x).tag == 2 && gRight x then (bif negB (ndOf x).bytes then 1 else 0) else 3
def gNv (x : IV) : List IV := bif (ndOf x).tag == 2 && gRight x && !negB (ndOf x).bytes then w64s (limbs (numL (ndOf x).bytes)) else []
theorem wk_nil3 {e : Int} : Wk (.tup [.fsl (some true) true 0 [], .int .i64 e]) (.tup [.fsl none false 1 [], .int .i64 e]) := wk_tup nil_fsl
/-- What is known of a number's value, that has no sign. -/
theorem nat_bytes {b0 : UInt8} {r : List UInt8} (h : fitsB 2 (b0 :: r) = true) (hn : negB (b0 :: r) = false) : numL (if b0.toNat = 0 then r else b0 :: r) = numL (b0 :: r) ∧
    ∀ L : List Nat, okL L → L.length = ((if b0.toNat = 0 then r else b0 :: r).length + 7) / 8 → valL L = numL (b0 :: r) → L = limbs (numL (b0 :: r)) := by
  have e : numL (if b0.toNat = 0 then r else b0 :: r) = numL (b0 :: r) := by
    split
    · rename_i h0; rw [num_cons, h0, Nat.zero_mul, Nat.zero_add]
    · rfl
  refine ⟨e, fun L ho hl hv => ?_⟩
  have := limbs_full ho (by
    rw [hv]
    have key : ∀ (x : UInt8) (q : List UInt8), 1 ≤ x.toNat → 18446744073709551616 ^ (((x :: q).length + 7) / 8 - 1) ≤ numL (x :: q) := fun x q hx => by
      rw [num_cons, List.length_cons, pow64]
      have h1 : 256 ^ (8 * ((q.length + 1 + 7) / 8 - 1)) ≤ 256 ^ q.length := Nat.pow_le_pow_right (by decide) (by omega)
      have h2 := Nat.mul_le_mul_right (256 ^ q.length) hx
      omega
    by_cases h0 : b0.toNat = 0
    · rw [if_pos h0] at hl e
      cases r with
      | nil => left; rw [hl]; rfl
      | cons x q =>
        right
        have hx : 128 ≤ x.toNat := by
          have hf : fitsB 2 (b0 :: x :: q) = (!(b0.toNat == 0 && decide (x.toNat < 128)) && !(b0.toNat == 255 && decide (128 ≤ x.toNat))) := rfl
          rw [hf, h0] at h
          by_cases hx : x.toNat < 128
          · rw [decide_eq_true hx] at h; cases h
          · omega
        rw [hl, ← e]
        exact key x q (by omega)
    · rw [if_neg h0] at hl
      right
      rw [hl]
      exact key b0 r (by omega))
  rw [hv] at this
  exact this
theorem nof_known {cR : IV → Bool} (hR : Known Try.prog hint 14 (welP cR gRight)) : Known Try.prog hint 26 (nfP (cTag 2 cR) gNv gNe) := by
  refine known_frz1 fits fun us T v T1 h => ?_
  unfold nfP at h
  split at h
  case h_2 => cases h
  rename_i t n1 c1 z1 bs n2 c2 z2 ks
  simp only [List.mem_cons, List.not_mem_nil, or_false, Prod.mk.injEq, Bool.true_eq, cTag, Bool.and_eq_true, decide_eq_true_eq] at h
  obtain ⟨⟨⟨ho, hlen⟩, hr⟩, rfl, rfl⟩ := h
  obtain ⟨N, hN, rfl, rfl, hk, hkk, hz1, hz2⟩ := nd_openO ho
  have e1 : gNv (ndV N.tag n1 c1 z1 (u8s N.bytes) n2 c2 z2 ks) = bif N.tag == 2 && gRight (ndV N.tag n1 c1 z1 (u8s N.bytes) n2 c2 z2 ks) && !negB N.bytes then w64s (limbs (numL N.bytes)) else [] := by unfold gNv; rw [hN]
  have e2 : gNe (ndV N.tag n1 c1 z1 (u8s N.bytes) n2 c2 z2 ks) = bif N.tag == 2 && gRight (ndV N.tag n1 c1 z1 (u8s N.bytes) n2 c2 z2 ks) then (bif negB N.bytes then 1 else 0) else 3 := by unfold gNe; rw [hN]
  rw [e1, e2]
  rw [hN] at hr hlen
  have hno : LoopsOK Try.prog hint (acall Try.prog hint (ovrOf (tab [(14, welP cR gRight), (42, clP cCl)]))) (ltab [(26, 1018, noL)]) := ltab_no (by kernel_rfl) ltab_nil
  have htab : ∀ f F, tab [(14, welP cR gRight), (42, clP cCl)] f = some F → Known Try.prog hint f F := tab_cons hR (tab_cons clone_known tab_nil)
  refine ⟨rfl, rfl, noGd_of rfl, ?_⟩
  cases ht : N.tag == 2
  · exact ⟨_, _, htab, hno, 30, _, _, _, [], (nof_no cR gRight cCl N.tag n1 c1 z1 (u8s N.bytes) n2 c2 z2 ks).trans (bif_stepF (by rw [tag2, ht]; rfl) rfl), rfl, wk_nil3⟩
  have ht2 : N.tag = 2 := eq_of_beq ht
  rw [ht, Bool.not_true, Bool.false_or] at hr
  cases hg : gRight (ndV N.tag n1 c1 z1 (u8s N.bytes) n2 c2 z2 ks)
  · exact ⟨_, _, htab, hno, 30, _, _, _, [], (nof_no cR gRight cCl N.tag n1 c1 z1 (u8s N.bytes) n2 c2 z2 ks).trans (bif_step (by rw [tag2, ht]; rfl) (bif_step hr (bif_step (by rw [hg]; rfl) rfl))), rfl, wk_nil3⟩
  have hfit := right2 (x := ndV N.tag n1 c1 z1 (u8s N.bytes) n2 c2 z2 ks) (by rw [hN]; exact ht2)
  rw [hg, hN] at hfit
  have hf2 := ((Bool.and_eq_true _ _).mp hfit.symm).2
  have hne := fits2_pos hf2
  have hz : z1 = 1 := hz1.resolve_right hne
  obtain ⟨b0, r, hb⟩ := List.exists_cons_of_ne_nil hne
  subst hz
  rw [hb] at hg hr hf2 hlen ⊢
  rw [u8s_cons] at hg hr ⊢
  rw [List.length_cons] at hlen
  have hb0 := b0.toNat_lt
  have hl : (IV.int .u8 (b0.toNat : Int) :: u8s r).length = r.length + 1 := by rw [List.length_cons, u8s_len]
  have hnb : negB (b0 :: r) = decide ((b0.toNat : Int) ≥ 128) := by unfold negB; rw [List.headD_cons]; exact decide_eq_decide.2 ⟨fun h => by omega, fun h => by omega⟩
  have htag : ((N.tag != 2) == false) = true := by rw [ht2]; rfl
  by_cases hneg : (b0.toNat : Int) ≥ 128
  · rw [hnb, decide_eq_true hneg]
    refine ⟨_, _, htab, ltab_cons (by kernel_rfl) (fun _ _ _ _ h => (gF_off h).elim) ltab_nil, 30, _, _, _, [], (nof_call (fun _ _ => false) cR gRight cCl [] [] 0 (b0.toNat : Int) (u8s r) N.tag n1 c1 1 n2 c2 z2 ks).trans (bif_step htag (bif_step hr (bif_stepF (by rw [hg]; rfl) (bif_step (decide_eq_true ⟨rfl, by omega, by omega⟩) (bif_step (decide_eq_true hneg) rfl))))), rfl, wk_nil3⟩
  have hnf : negB (b0 :: r) = false := by rw [hnb]; exact decide_eq_false hneg
  rw [hnf]
  obtain ⟨u1, u2⟩ := nat_bytes hf2 hnf
  have hcl : cCl 1 (IV.int .u8 (b0.toNat : Int) :: u8s r) = true := by unfold cCl; exact decide_eq_true ⟨.inl rfl, by omega⟩
  have hz0 : (((b0.toNat : Nat) : Int) == 0) = decide (b0.toNat = 0) := by rw [Bool.eq_iff_iff, beq_iff_eq, decide_eq_true_eq]; omega
  have hrep : ∀ k : Nat, List.replicate k (ofVal (Value.int .u64 0)) = w64s (List.replicate k 0) := fun k => w64s_rep k
  have w7 : ∀ k : Nat, k ≤ 140737488355328 → IntKind.i64.wrap (IntKind.i64.wrap ((k : Int) + 7) |>.tdiv 8) = (((k + 7) / 8 : Nat) : Int) := fun k hk => by
    rw [show (7 : Int) = ((7 : Nat) : Int) from rfl, wadd (by omega), tdiv8, wi_nat (by omega)]
  by_cases h0 : b0.toNat = 0
  · rw [if_pos h0] at u1 u2
    obtain ⟨L', q, q1, q2, q3⟩ := nof_runs (sp := tab [(14, welP cR gRight), (42, clP cCl)]) (b := r) (by omega) (nl := none) (cl := false) r.length 0 (List.replicate ((r.length + 7) / 8) 0) (by omega) (okL_rep _) (by rw [List.length_replicate]) (by rw [valL_rep, Nat.sub_zero, List.drop_length]; rfl)
    rw [u1] at q3
    obtain rfl := u2 L' q1 q2 q3
    have hr2 := nof_call (atB [.fsl none false 1 (u8s r), .osl 0 0, .int .i64 (r.length : Int), .int .i64 ((0 : Nat) : Int)] [.row 0 false 1 (w64s (List.replicate ((r.length + 7) / 8) 0))]) cR gRight cCl (u8s r) (w64s (limbs (numL (b0 :: r)))) r.length (b0.toNat : Int) (u8s r) N.tag n1 c1 1 n2 c2 z2 ks
    have htk : List.take (((IV.int .u8 (b0.toNat : Int) :: u8s r).length : Int).toNat - 1) (List.drop 1 (IV.int .u8 (b0.toNat : Int) :: u8s r)) = u8s r := by
      rw [Int.toNat_natCast, List.length_cons, Nat.add_sub_cancel, List.drop_succ_cons, List.drop_zero, List.take_length]
    rw [htk, u8s_len, w7 _ (by omega), Int.toNat_natCast, hrep] at hr2
    exact ⟨_, _, htab, ltab_run (by kernel_rfl) q ltab_nil (by kernel_rfl), 30, .tup [.osl 0 0, .int .i64 0], [.row 0 false 1 (w64s (limbs (numL (b0 :: r))))], .tup [.fsl none false 1 (w64s (limbs (numL (b0 :: r)))), .int .i64 0], [0], hr2.trans (bif_step htag (bif_step hr (bif_stepF (by rw [hg]; rfl) (bif_step (decide_eq_true ⟨rfl, by omega, by omega⟩) (bif_stepF (decide_eq_false hneg) (bif_step hcl (bif_step (decide_eq_true ⟨rfl, by omega, by omega⟩) (bif_step (by rw [intI', hz0]; exact decide_eq_true h0) (bif_step (decide_eq_true (by omega)) (bif_step (decide_eq_true (by rw [roomB_val]; omega)) (bif_step (at_eq rfl rfl) rfl))))))))))), rfl, Wk.refl _⟩
  · rw [if_neg h0] at u1 u2
    obtain ⟨L', q, q1, q2, q3⟩ := nof_runs (sp := tab [(14, welP cR gRight), (42, clP cCl)]) (b := b0 :: r) (by rw [List.length_cons]; omega) (nl := none) (cl := false) (b0 :: r).length 0 (List.replicate (((b0 :: r).length + 7) / 8) 0) (by omega) (okL_rep _) (by rw [List.length_replicate]) (by rw [valL_rep, Nat.sub_zero, List.drop_length]; rfl)
    obtain rfl := u2 L' q1 q2 q3
    rw [u8s_cons] at q
    rw [List.length_cons] at q
    have hr2 := nof_call (atB [.fsl none false 1 (.int .u8 (b0.toNat : Int) :: u8s r), .osl 0 0, .int .i64 ((r.length + 1 : Nat) : Int), .int .i64 ((0 : Nat) : Int)] [.row 0 false 1 (w64s (List.replicate ((r.length + 1 + 7) / 8) 0))]) cR gRight cCl (.int .u8 (b0.toNat : Int) :: u8s r) (w64s (limbs (numL (b0 :: r)))) (r.length + 1 : Nat) (b0.toNat : Int) (u8s r) N.tag n1 c1 1 n2 c2 z2 ks
    rw [hl, w7 (r.length + 1) (by omega), Int.toNat_natCast ((r.length + 1 + 7) / 8), hrep, hrep] at hr2
    exact ⟨_, _, htab, ltab_run (by kernel_rfl) q ltab_nil (by kernel_rfl), 30, .tup [.osl 0 0, .int .i64 0], [.row 0 false 1 (w64s (limbs (numL (b0 :: r))))], .tup [.fsl none false 1 (w64s (limbs (numL (b0 :: r)))), .int .i64 0], [0], hr2.trans (bif_step htag (bif_step hr (bif_stepF (by rw [hg]; rfl) (bif_step (decide_eq_true ⟨rfl, by omega, by omega⟩) (bif_stepF (decide_eq_false hneg) (bif_step hcl (bif_step (decide_eq_true ⟨rfl, by omega, by omega⟩) (bif_stepF (by rw [intI', hz0]; exact decide_eq_false h0) (bif_step (decide_eq_true (by rw [roomB_val]; omega)) (bif_step (at_eq rfl rfl) rfl)))))))))), rfl, Wk.refl _⟩
theorem rnof_known {cR : IV → Bool} (hR : Known Try.prog hint 15 (welP cR gRight)) : Known Try.prog hint 27 (nfP (cTag 2 cR) gNv gNe) := by
  refine known_frz1 fits fun us T v T1 h => ?_
  unfold nfP at h
  split at h
  case h_2 => cases h
  rename_i t n1 c1 z1 bs n2 c2 z2 ks
  simp only [List.mem_cons, List.not_mem_nil, or_false, Prod.mk.injEq, Bool.true_eq, cTag, Bool.and_eq_true, decide_eq_true_eq] at h
  obtain ⟨⟨⟨ho, hlen⟩, hr⟩, rfl, rfl⟩ := h
  obtain ⟨N, hN, rfl, rfl, hk, hkk, hz1, hz2⟩ := nd_openO ho
  have e1 : gNv (ndV N.tag n1 c1 z1 (u8s N.bytes) n2 c2 z2 ks) = bif N.tag == 2 && gRight (ndV N.tag n1 c1 z1 (u8s N.bytes) n2 c2 z2 ks) && !negB N.bytes then w64s (limbs (numL N.bytes)) else [] := by unfold gNv; rw [hN]
  have e2 : gNe (ndV N.tag n1 c1 z1 (u8s N.bytes) n2 c2 z2 ks) = bif N.tag == 2 && gRight (ndV N.tag n1 c1 z1 (u8s N.bytes) n2 c2 z2 ks) then (bif negB N.bytes then 1 else 0) else 3 := by unfold gNe; rw [hN]
  rw [e1, e2]
  rw [hN] at hr hlen
  have hno : LoopsOK Try.prog hint (acall Try.prog hint (ovrOf (tab [(15, welP cR gRight)]))) (ltab [(27, 250, noL), (27, 252, noL)]) := ltab_no (by kernel_rfl) (ltab_no (by kernel_rfl) ltab_nil)
  have htab : ∀ f F, tab [(15, welP cR gRight)] f = some F → Known Try.prog hint f F := tab_cons hR tab_nil
  refine ⟨rfl, rfl, noGd_of rfl, ?_⟩
  cases ht : N.tag == 2
  · exact ⟨_, _, htab, hno, 30, _, _, _, [], (rnof_no cR gRight N.tag n1 c1 z1 (u8s N.bytes) n2 c2 z2 ks).trans (bif_stepF (by rw [tag2, ht]; rfl) rfl), rfl, wk_nil3⟩
  have ht2 : N.tag = 2 := eq_of_beq ht
  rw [ht, Bool.not_true, Bool.false_or] at hr
  cases hg : gRight (ndV N.tag n1 c1 z1 (u8s N.bytes) n2 c2 z2 ks)
  · exact ⟨_, _, htab, hno, 30, _, _, _, [], (rnof_no cR gRight N.tag n1 c1 z1 (u8s N.bytes) n2 c2 z2 ks).trans (bif_step (by rw [tag2, ht]; rfl) (bif_step hr (bif_step (by rw [hg]; rfl) rfl))), rfl, wk_nil3⟩
  have hfit := right2 (x := ndV N.tag n1 c1 z1 (u8s N.bytes) n2 c2 z2 ks) (by rw [hN]; exact ht2)
  rw [hg, hN] at hfit
  have hf2 := ((Bool.and_eq_true _ _).mp hfit.symm).2
  have hne := fits2_pos hf2
  have hz : z1 = 1 := hz1.resolve_right hne
  obtain ⟨b0, r, hb⟩ := List.exists_cons_of_ne_nil hne
  subst hz
  rw [hb] at hg hr hf2 hlen ⊢
  rw [u8s_cons] at hg hr ⊢
  rw [List.length_cons] at hlen
  have hb0 := b0.toNat_lt
  have hl : (IV.int .u8 (b0.toNat : Int) :: u8s r).length = r.length + 1 := by rw [List.length_cons, u8s_len]
  have hnb : negB (b0 :: r) = decide ((b0.toNat : Int) > 127) := by unfold negB; rw [List.headD_cons]; exact decide_eq_decide.2 ⟨fun h => by omega, fun h => by omega⟩
  have htag : ((N.tag != 2) == false) = true := by rw [ht2]; rfl
  by_cases hneg : (b0.toNat : Int) > 127
  · rw [hnb, decide_eq_true hneg]
    refine ⟨_, _, htab, ltab_cons (by kernel_rfl) (fun _ _ _ _ h => (gF_off h).elim) (ltab_cons (by kernel_rfl) (fun _ _ _ _ h => (gF_off h).elim) ltab_nil), 30, _, _, _, [], (rnof_call1 (fun _ _ => false) (fun _ _ => false) cR gRight [] 0 (b0.toNat : Int) (u8s r) N.tag n1 c1 1 n2 c2 z2 ks).trans (bif_step htag (bif_step hr (bif_stepF (by rw [hg]; rfl) (bif_step (decide_eq_true ⟨rfl, by omega, by omega⟩) (bif_step (decide_eq_true hneg) rfl))))), rfl, wk_nil3⟩
  have hnf : negB (b0 :: r) = false := by rw [hnb]; exact decide_eq_false hneg
  rw [hnf]
  obtain ⟨L', q, q1, q2, q3⟩ := rnof_runs (sp := tab [(15, welP cR gRight)]) (b := b0 :: r) (by rw [List.length_cons]; omega) (tg := N.tag) (n1 := n1) (n2 := n2) (c1 := c1) (c2 := c2) (z2 := z2) (ks := ks) (b0 :: r).length 0 [] (by omega) okL_nil rfl (by rw [Nat.sub_zero, List.drop_length]; rfl)
  have hL : L'.length ≤ 140737488355328 := by rw [q2, List.length_cons]; omega
  have hst := st7_start (sp := tab [(15, welP cR gRight)]) hL (tg := N.tag) (b := b0 :: r) (n1 := n1) (n2 := n2) (c1 := c1) (c2 := c2) (z2 := z2) (ks := ks) (x := ((b0 :: r).length : Int))
  have htr : trimL L' = limbs (numL (b0 :: r)) := by rw [trimL_eq q1, q3]
  have htk := trimL_take L'
  rw [htr] at htk
  rw [← htr]
  unfold st7 at hst
  rw [u8s_cons] at q hst
  by_cases hfull : (trimL L').length = L'.length
  · rw [if_pos hfull] at hst
    have e : trimL L' = L' := by rw [trimL_take L', hfull, List.take_length]
    rw [e]
    exact ⟨_, _, htab, ltab_run (by kernel_rfl) q (ltab_run (by kernel_rfl) hst ltab_nil (by kernel_rfl)) (by kernel_rfl), 30, .tup [.osl 0 0, .int .i64 0], [.row 0 false 1 (w64s L')], .tup [.fsl none false 1 (w64s L'), .int .i64 0], [0],
      (rnof_call1 (atB [.ptr 0 0, .osl 1 0, .int .i64 ((0 : Nat) : Int)] [.var false [.int .i64 N.tag, .fsl n1 c1 1 (.int .u8 (b0.toNat : Int) :: u8s r), .fsl n2 c2 z2 ks], .row 0 false 1 (w64s [])]) (atB [.ptr 0 0, .osl 1 0, .int .i64 ((b0 :: r).length : Int)] [.var false [.int .i64 N.tag, .fsl n1 c1 1 (.int .u8 (b0.toNat : Int) :: u8s r), .fsl n2 c2 z2 ks], .row 0 false 1 (w64s L')]) cR gRight (w64s L') ((b0 :: r).length : Int) (b0.toNat : Int) (u8s r) N.tag n1 c1 1 n2 c2 z2 ks).trans
        (bif_step htag (bif_step hr (bif_stepF (by rw [hg]; rfl) (bif_step (decide_eq_true ⟨rfl, by omega, by omega⟩) (bif_stepF (decide_eq_false hneg) (bif_step (at_eq rfl rfl) (bif_step (at_eq rfl rfl) rfl))))))), rfl, Wk.refl _⟩
  · rw [if_neg hfull] at hst
    refine ⟨_, _, htab, ltab_run (by kernel_rfl) q (ltab_run (by kernel_rfl) hst ltab_nil (by kernel_rfl)) (by kernel_rfl), 30, .tup [.vsl 0 0 0 (trimL L').length, .int .i64 0], [.row 0 false 1 (w64s L')], .tup [.fsl none false 1 (((w64s L').drop 0).take (trimL L').length), .int .i64 0], [0],
      (rnof_call2 (atB [.ptr 0 0, .osl 1 0, .int .i64 ((0 : Nat) : Int)] [.var false [.int .i64 N.tag, .fsl n1 c1 1 (.int .u8 (b0.toNat : Int) :: u8s r), .fsl n2 c2 z2 ks], .row 0 false 1 (w64s [])]) (atB [.ptr 0 0, .osl 1 0, .int .i64 ((b0 :: r).length : Int)] [.var false [.int .i64 N.tag, .fsl n1 c1 1 (.int .u8 (b0.toNat : Int) :: u8s r), .fsl n2 c2 z2 ks], .row 0 false 1 (w64s L')]) cR gRight (w64s L') (trimL L').length ((b0 :: r).length : Int) (b0.toNat : Int) (u8s r) N.tag n1 c1 1 n2 c2 z2 ks).trans
        (bif_step htag (bif_step hr (bif_stepF (by rw [hg]; rfl) (bif_step (decide_eq_true ⟨rfl, by omega, by omega⟩) (bif_stepF (decide_eq_false hneg) (bif_step (at_eq rfl rfl) (bif_step (at_eq rfl rfl) rfl))))))), rfl, ?_⟩
    rw [List.drop_zero, w64s_take, ← trimL_take]
    exact Wk.refl _
/-! ### Texts -/
def txP (c : List UInt8 → Bool) (g : List UInt8 → Bool) : SpecF := fun us T => match us, T with
  | [.str s], [] => [(c s, .tup [ndV (bif g s then 12 else 0) none false 1 (bif g s then u8s s else []) (some true) true 0 [], .int .i64 (bif g s then 0 else 1)], [])]
  | _, _ => []
def cTx (s : List UInt8) : Bool := decide (s.length ≤ 1000000)
def gTx (s : List UInt8) : Bool := !s.any badC
theorem okNd_leaf {t : Int} {n1 : Option Bool} {c1 : Bool} {b : List UInt8} {n2 : Option Bool} {c2 : Bool} : okNd (ndV t n1 c1 1 (u8s b) n2 c2 0 []) = true := by
  show ((decide ((1 : Nat) = 1 ∨ (u8s b).length = 0) && okB (u8s b)) && (decide ((0 : Nat) = 3 ∨ ([] : List IV).length = 0) && okNds [])) = true
  rw [okB_u8s, decide_eq_true (.inl rfl), decide_eq_true (.inr rfl)]
  rfl
theorem ndOf_leaf {t : Int} {n1 : Option Bool} {c1 : Bool} {b : List UInt8} {n2 : Option Bool} {c2 : Bool} {z1 z2 : Nat} : ndOf (ndV t n1 c1 z1 (u8s b) n2 c2 z2 []) = .mk t b [] := by
  show Nd.mk t (toBytes (u8s b)) (ndsOf []) = _
  rw [toBytes_u8s]
  rfl
theorem cN_leaf {t : Int} {n1 : Option Bool} {c1 : Bool} {b : List UInt8} {n2 : Option Bool} {c2 : Bool} (h : b.length ≤ 90000000) : cN (ndV t n1 c1 1 (u8s b) n2 c2 0 []) = true := by
  unfold cN
  rw [okNd_leaf, ndOf_leaf, sz_mk]
  simp only [Nd.bytes, Nd.kids, szs]
  rw [decide_eq_true (by omega)]
  rfl
theorem right12 {n1 : Option Bool} {c1 : Bool} {b : List UInt8} {n2 : Option Bool} {c2 : Bool} {z1 z2 : Nat} : gRight (ndV 12 n1 c1 z1 (u8s b) n2 c2 z2 []) = gTx b := by
  unfold gRight
  rw [ndOf_leaf]
  unfold Nd.rg
  rw [show gMany 12 = false from rfl]
  rfl
theorem wk_text {t : Int} {b : List IV} {e : Int} {n1 : Option Bool} {c1 : Bool} {z1 : Nat} (hz : z1 = 1 ∨ b = []) : Wk (.tup [.agg [.int .i64 t, .fsl n1 c1 z1 b, .fsl (some true) true 0 []], .int .i64 e]) (.tup [ndV t none false 1 b (some true) true 0 [], .int .i64 e]) :=
  Wk.tup (WkL.cons (Wk.agg (WkL.cons (Wk.refl _) (WkL.cons (Wk.fsl rfl (.inl rfl) (by simp) (hz.imp Eq.symm id)) (WkL.cons (Wk.refl _) WkL.nil)))) (WkL.cons (Wk.refl _) WkL.nil))
theorem text_known : Known Try.prog hint 18 (txP cTx gTx) := by
  refine known_weak fits (spec := tab [(14, welP cN gRight)]) (tab_cons right_known tab_nil) loops_none fun us T v T1 h => ?_
  unfold txP at h
  split at h
  case h_2 => cases h
  rename_i s
  simp only [List.mem_cons, List.not_mem_nil, or_false, Prod.mk.injEq, Bool.true_eq, cTx, decide_eq_true_eq] at h
  obtain ⟨h1, rfl, rfl⟩ := h
  have ht := text_tree cN gRight s
  rw [right12] at ht
  have hc := cN_leaf (t := 12) (n1 := some false) (c1 := false) (b := s) (n2 := some true) (c2 := true) (by omega)
  refine ⟨noGd_of rfl, 30, ?_⟩
  cases hg : gTx s
  · exact ⟨_, wk_text (.inr rfl), ht.trans (bif_step hc (bif_step (by rw [hg]; rfl) rfl))⟩
  · exact ⟨_, wk_text (.inl rfl), ht.trans (bif_step hc (bif_stepF (by rw [hg]; rfl) rfl))⟩
theorem rtext_known : Known Try.prog hint 19 (txP cTx gTx) := by
  refine known_weak fits (spec := tab [(39, fitP cFt gFt)]) (tab_cons rfit_known tab_nil) loops_none fun us T v T1 h => ?_
  unfold txP at h
  split at h
  case h_2 => cases h
  rename_i s
  simp only [List.mem_cons, List.not_mem_nil, or_false, Prod.mk.injEq, Bool.true_eq, cTx, decide_eq_true_eq] at h
  obtain ⟨h1, rfl, rfl⟩ := h
  have ht := rtext_tree cFt gFt s
  have hgf : gFt 12 (u8s s) = gTx s := by unfold gFt gTx; rw [toBytes_u8s, fits12]
  rw [hgf] at ht
  have hc : cFt 12 1 (u8s s) = true := cF_of (.inl rfl) (by omega)
  refine ⟨noGd_of rfl, 30, ?_⟩
  cases hg : gTx s
  · exact ⟨_, wk_text (.inr rfl), ht.trans (bif_step hc (bif_step (by rw [hg]; rfl) rfl))⟩
  · exact ⟨_, wk_text (.inl rfl), ht.trans (bif_step hc (bif_stepF (by rw [hg]; rfl) rfl))⟩
def tfP (c : IV → Bool) (gs : IV → List UInt8) (ge : IV → Int) : SpecF := fun us T => match us, T with
  | [.agg [.int .i64 t, .fsl n1 c1 z1 bs, .fsl n2 c2 z2 ks]], [] => [(c (ndV t n1 c1 z1 bs n2 c2 z2 ks), .tup [.str (gs (ndV t n1 c1 z1 bs n2 c2 z2 ks)), .int .i64 (ge (ndV t n1 c1 z1 bs n2 c2 z2 ks))], [])]
  | _, _ => []
def gTs (x : IV) : List UInt8 := bif (ndOf x).tag == 12 && gRight x then (ndOf x).bytes else []
def gTe (x : IV) : Int := bif (ndOf x).tag == 12 && gRight x then 0 else 3
theorem tof_gen {f g : FuncId} {cR : IV → Bool} (hR : Known Try.prog hint g (welP cR gRight)) (htree : ∀ (c g' : IV → Bool) (tg : Int) (n1 : Option Bool) (c1 : Bool) (z1 : Nat) (bs : List IV) (n2 : Option Bool) (c2 : Bool) (z2 : Nat) (ks : List IV), C (tab [(g, welP c g')]) f [.agg [.int .i64 tg, .fsl n1 c1 z1 bs, .fsl n2 c2 z2 ks]] =
    (bif (tg != 12) == false then bif c (.agg [.int .i64 tg, .fsl n1 c1 z1 bs, .fsl n2 c2 z2 ks]) then bif (bif false then true else !g' (ndV tg n1 c1 z1 bs n2 c2 z2 ks)) then some (.tup [.str [], .int .i64 3], []) else
      bif decide (z1 = 1 ∨ bs.length = 0) && isBytes bs then some (.tup [.str (toBytes bs), .int .i64 0], []) else none else none else some (.tup [.str [], .int .i64 3], []))) : Known Try.prog hint f (tfP (cTag 12 cR) gTs gTe) := by
  refine known_of fits (spec := tab [(g, welP cR gRight)]) (tab_cons hR tab_nil) loops_none ?_
  (intro xs T v T1 h; unfold tfP at h; split at h; rotate_left; · cases h)
  rename_i t n1 c1 z1 bs n2 c2 z2 ks
  simp only [List.mem_cons, List.not_mem_nil, or_false, Prod.mk.injEq, Bool.true_eq, cTag, Bool.and_eq_true, decide_eq_true_eq] at h
  obtain ⟨⟨⟨ho, hlen⟩, hr⟩, rfl, rfl⟩ := h
  obtain ⟨N, hN, rfl, rfl, hk, hkk, hz1, hz2⟩ := nd_openO ho
  have e1 : gTs (ndV N.tag n1 c1 z1 (u8s N.bytes) n2 c2 z2 ks) = bif N.tag == 12 && gRight (ndV N.tag n1 c1 z1 (u8s N.bytes) n2 c2 z2 ks) then N.bytes else [] := by unfold gTs; rw [hN]
  have e2 : gTe (ndV N.tag n1 c1 z1 (u8s N.bytes) n2 c2 z2 ks) = bif N.tag == 12 && gRight (ndV N.tag n1 c1 z1 (u8s N.bytes) n2 c2 z2 ks) then 0 else 3 := by unfold gTe; rw [hN]
  rw [e1, e2]
  rw [hN] at hr
  refine ⟨30, (htree cR gRight N.tag n1 c1 z1 (u8s N.bytes) n2 c2 z2 ks).trans ?_⟩
  have ht12 : (N.tag != 12) = !(N.tag == 12) := rfl
  cases ht : N.tag == 12
  · exact bif_stepF (by rw [ht12, ht]; rfl) rfl
  rw [ht, Bool.not_true, Bool.false_or] at hr
  refine bif_step (by rw [ht12, ht]; rfl) (bif_step hr ?_)
  cases hg : gRight (ndV N.tag n1 c1 z1 (u8s N.bytes) n2 c2 z2 ks)
  · rfl
  · refine bif_stepF rfl (bif_step ?_ ?_)
    · rw [isBytes_u8s, decide_eq_true (hz1.imp id fun h => by rw [h]; rfl)]; rfl
    · rw [toBytes_u8s]; rfl
theorem tof_known {cR : IV → Bool} (hR : Known Try.prog hint 14 (welP cR gRight)) : Known Try.prog hint 28 (tfP (cTag 12 cR) gTs gTe) := tof_gen hR tof_tree
theorem rtof_known {cR : IV → Bool} (hR : Known Try.prog hint 15 (welP cR gRight)) : Known Try.prog hint 29 (tfP (cTag 12 cR) gTs gTe) := tof_gen hR rtof_tree
end
end Go.Proofs.Ytolpgbgmldpneaa
