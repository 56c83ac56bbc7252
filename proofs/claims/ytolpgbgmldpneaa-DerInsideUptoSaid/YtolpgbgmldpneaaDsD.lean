/- DerInside at all arguments that are not too great. It bears no condition. -/
import Derived.Test.YtolpgbgmldpneaaDsB
namespace Go.Proofs.Ytolpgbgmldpneaa
open Go Go.Im
set_option linter.unusedVariables false
set_option linter.unusedSimpArgs false
set_option maxRecDepth 20000
noncomputable section

theorem sz_arg {x : IV} (h : ArgT Try.prog 25 x) (hb : ivB x ≤ 1048576) : (ndOf x).sz ≤ 8388608 := by
  obtain ⟨n, l, h1, h2, _⟩ := h
  obtain ⟨t, n1, c1, z1, bs, n2, c2, z2, ks, rfl, ho⟩ := ty25 n h1
  have hx := pack_struct Try.underlying25 h2 (by rw [cells25]; rfl)
  subst hx
  have := sz_ivB _ _ (Nat.le_refl _) ho
  omega
theorem bif_t {α : Type} {c : Bool} {a b : α} (h : c = true) : (bif c then a else b) = a := by subst h; rfl
theorem bif_f {α : Type} {c : Bool} {a b : α} (h : c = false) : (bif c then a else b) = b := by subst h; rfl
theorem cN_sz {x : IV} (h : cN x = true) : (ndOf x).sz ≤ 100000000 := by
  unfold cN at h
  rw [Bool.and_eq_true, decide_eq_true_eq] at h
  exact h.2
theorem bo_of (x y : IV) : ndOf (boV x y) = .mk 48 [] [ndOf x, ndOf y] := rfl
theorem bo_cN {x y : IV} (hx : okNd x = true) (hy : okNd y = true) (h : (ndOf x).sz + (ndOf y).sz + 8 ≤ 100000000) : cN (boV x y) = true := by
  have h1 : okNd (boV x y) = (okNd x && (okNd y && true)) := rfl
  have h2 : (ndOf (boV x y)).sz = (ndOf x).sz + (ndOf y).sz + 8 := by
    rw [bo_of, sz_mk]
    simp only [Nd.bytes, Nd.kids, szs, List.length_nil]
    omega
  unfold cN
  rw [h1, hx, hy, h2, decide_eq_true h]
  rfl
theorem gW3 (x : IV) : (gRight x = false ∧ gWe x = 3) ∨ (gRight x = true ∧ gWe x = 2) ∨ (gRight x = true ∧ gWe x = 0 ∧ gWr x = u8s (ndOf x).wr ∧ (ndOf x).wr.length ≤ 65535) := by
  cases h : gRight x
  · exact .inl ⟨rfl, (gWr_bad h).2⟩
  · by_cases hl : (ndOf x).wr.length ≤ 65535
    · exact .inr (.inr ⟨rfl, (gWr_ok h hl).2, (gWr_ok h hl).1, hl⟩)
    · exact .inr (.inl ⟨rfl, (gWr_long h hl).2⟩)
theorem bo_wr (x y : Nd) : ∃ p : List UInt8, 2 ≤ p.length ∧ (Nd.mk 48 [] [x, y]).wr = p ++ (x.wr ++ y.wr) := by
  refine ⟨u8of 48 :: lenB ([] ++ wrs [x, y]).length, ?_, ?_⟩
  · have : 1 ≤ (lenB ([] ++ wrs [x, y]).length).length := by
      unfold lenB
      split <;> simp
    rw [List.length_cons]
    omega
  · rw [wr_mk]
    simp only [Nd.tag, Nd.bytes, Nd.kids, wrs, List.nil_append, List.append_nil, List.cons_append]
theorem waddU {a b : Nat} (h : a + b ≤ 9223372036854775807) : IntKind.i64.wrap ((a : Int) + (b : Int)) = ((a + b : Nat) : Int) := by rw [wrap_i64]; omega
theorem u8sD (l : List UInt8) (n : Nat) : (u8s l).drop n = u8s (l.drop n) := by simp [u8s, List.map_drop]
theorem u8sT (l : List UInt8) (n : Nat) : (u8s l).take n = u8s (l.take n) := by simp [u8s, List.map_take]
theorem waddT {k : Nat} (h : k ≤ 1000000) : IntKind.i64.wrap ((k : Int) + 2) = ((k + 2 : Nat) : Int) := by rw [wrap_i64]; omega
theorem okBs {l : List UInt8} : (decide ((1 : Nat) = 1 ∨ (u8s l).length = 0) && isBytes (u8s l)) = true := by
  rw [isBytes_u8s, decide_eq_true (.inl rfl)]; rfl
abbrev tabI' : FuncId → Option SpecF := tabI cN gHeavy cN gWr gWe cN gRight cS2 gSa
theorem tabI_ok : ∀ f F, tabI' f = some F → Known Try.prog hint f F := tab_cons heavy_known (tab_cons alive_known (tab_cons write_known (tab_cons right_known (tab_cons same_known tab_nil))))
theorem derInside_run (xs : List IV) (hl : xs.length = Try.f6.params.size) (h : ∀ (i : Nat) t, Try.f6.params[i]? = some t → ∃ x, xs[i]? = some x ∧ ArgT Try.prog t x ∧ ivB x ≤ 1048576) :
    ∃ k, acall Try.prog hint (ovrOf tabI') k 6 xs [] = some (.bool true, []) := by
  rw [Try.params6] at hl h
  obtain ⟨x0, g0, a0, b0⟩ := h 0 25 rfl
  obtain ⟨x1, g1, a1, b1⟩ := h 1 25 rfl
  match xs, hl with
  | [y0, y1], _ =>
    simp only [List.getElem?_cons_zero, List.getElem?_cons_succ, Option.some.injEq] at g0 g1
    subst g0 g1
    have s0 := sz_arg a0 b0
    have s1 := sz_arg a1 b1
    obtain ⟨t, n1, c1, z1, bs, n2, c2, z2, ks, hx0, hc⟩ := arg25 a0 b0
    obtain ⟨t', n1', c1', z1', bs', n2', c2', z2', ks', hx1, hc'⟩ := arg25 a1 b1
    have hd : C tabI' 6 [ndV t n1 c1 z1 bs n2 c2 z2 ks, ndV t' n1' c1' z1' bs' n2' c2' z2' ks'] = _ := di_tree cN gHeavy cN gWr gWe cN gRight cS2 gSa t n1 c1 z1 bs n2 c2 z2 ks t' n1' c1' z1' bs' n2' c2' z2' ks'
    rw [← hx0, ← hx1] at hd
    have hz := bo_cN (cN_ok hc) (cN_ok hc') (by omega)
    clear a0 a1 h
    generalize y0 = A at *
    generalize y1 = B at *
    cases hh : gHeavy A
    case true => exact law_run loops_none (n := 30) (hd.trans (bif_step hc (bif_stepF (by rw [hh]; rfl) rfl)))
    cases hh' : gHeavy B
    case true => exact law_run loops_none (n := 30) (hd.trans (bif_step hc (bif_step (by rw [hh]; rfl) (bif_step hc' (bif_stepF (by rw [hh']; rfl) rfl)))))
    cases hr : gRight A
    case false => exact law_run loops_none (n := 30) (hd.trans (bif_step hc (bif_step (by rw [hh]; rfl) (bif_step hc' (bif_step (by rw [hh']; rfl) (bif_step hc (bif_stepF (by rw [hr]; rfl) rfl)))))))
    cases hr' : gRight B
    case false => exact law_run loops_none (n := 30) (hd.trans (bif_step hc (bif_step (by rw [hh]; rfl) (bif_step hc' (bif_step (by rw [hh']; rfl) (bif_step hc (bif_step (by rw [hr]; rfl) (bif_step hc' (bif_step (by rw [hr']; rfl) rfl)))))))))
    have q1 : (gHeavy A == false) = true := by rw [hh]; rfl
    have q2 : ((bif false then true else gHeavy B) == false) = true := by rw [hh']; rfl
    have q3 : ((bif false then true else !gRight A) == false) = true := by rw [hr]; rfl
    have q4 : (bif false then true else !gRight B) = false := by rw [hr']; rfl
    replace hd := hd.trans (bif_t hc)
    replace hd := hd.trans (bif_t q1)
    replace hd := hd.trans (bif_t hc')
    replace hd := hd.trans (bif_t q2)
    replace hd := hd.trans (bif_t hc)
    replace hd := hd.trans (bif_t q3)
    replace hd := hd.trans (bif_t hc')
    replace hd := hd.trans (bif_f q4)
    replace hd := hd.trans (bif_t hc)
    replace hd := hd.trans (bif_t hc')
    replace hd := hd.trans (bif_t hz)
    by_cases he : gWe A = 0 ∧ gWe B = 0 ∧ gWe (boV A B) = 0
    case neg =>
      refine law_run loops_none (n := 30) (hd.trans (bif_step ?_ ?_))
      · rcases gW3 A with h1 | h1 | h1 <;> rcases gW3 B with h2 | h2 | h2 <;> rcases gW3 (boV A B) with h3 | h3 | h3 <;> simp_all
      · have : (bif true then bif bif bif gWe A == 2 then true else gWe B == 2 then true else gWe (boV A B) == 2 then true else gWe (boV A B) == 3 else false) = true := by
          rcases gW3 A with h1 | h1 | h1 <;> rcases gW3 B with h2 | h2 | h2 <;> rcases gW3 (boV A B) with h3 | h3 | h3 <;> simp_all
        exact congrArg (fun b => some (IV.bool b, [])) this
    case pos =>
      obtain ⟨e1, e2, e3⟩ := he
      have w1 : gWr A = u8s (ndOf A).wr ∧ (ndOf A).wr.length ≤ 65535 := by rcases gW3 A with h1 | h1 | h1 <;> simp_all
      have w2 : gWr B = u8s (ndOf B).wr ∧ (ndOf B).wr.length ≤ 65535 := by rcases gW3 B with h1 | h1 | h1 <;> simp_all
      have w3 : gWr (boV A B) = u8s (ndOf (boV A B)).wr ∧ (ndOf (boV A B)).wr.length ≤ 65535 := by rcases gW3 (boV A B) with h1 | h1 | h1 <;> simp_all
      obtain ⟨p, hp, hw⟩ := bo_wr (ndOf A) (ndOf B)
      rw [bo_of, hw] at w3
      have hsame := wr_same (x := ndOf A) (y := ndOf B) hr hr' (by omega) (by omega)
      generalize (ndOf A).wr = X at *
      generalize (ndOf B).wr = Y at *
      obtain ⟨w1, l1⟩ := w1
      obtain ⟨w2, l2⟩ := w2
      obtain ⟨w3, l3⟩ := w3
      rw [List.length_append, List.length_append] at l3
      have lz : (gWr (boV A B)).length = p.length + (X.length + Y.length) := by rw [w3, u8s_len, List.length_append, List.length_append]
      have lx : (gWr A).length = X.length := by rw [w1, u8s_len]
      have ly : (gWr B).length = Y.length := by rw [w2, u8s_len]
      have k1 : IntKind.i64.wrap (((gWr (boV A B)).length : Int) - ((gWr B).length : Int)) = ((p.length + X.length : Nat) : Int) := by
        rw [lz, ly, wrap_i64]; omega
      have k2 : IntKind.i64.wrap (((p.length + X.length : Nat) : Int) - ((gWr A).length : Int)) = (p.length : Int) := by
        rw [lx, wrap_i64]; omega
      have k3 : IntKind.i64.wrap (IntKind.i64.wrap (((gWr A).length : Int) + ((gWr B).length : Int)) + 2) = ((X.length + Y.length + 2 : Nat) : Int) := by
        rw [lx, ly, waddU (by omega), waddT (by omega)]
      have t1 : List.take (((gWr (boV A B)).length : Int).toNat - ((p.length + X.length : Nat) : Int).toNat) (List.drop ((p.length + X.length : Nat) : Int).toNat (gWr (boV A B))) = u8s Y := by
        rw [lz, Int.toNat_natCast, Int.toNat_natCast, w3, u8sD, u8sT, ← List.append_assoc, List.drop_left' (by rw [List.length_append]), List.take_of_length_le (by omega)]
      have t2 : List.take (((p.length + X.length : Nat) : Int).toNat - (p.length : Int).toNat) (List.drop (p.length : Int).toNat (gWr (boV A B))) = u8s X := by
        rw [Int.toNat_natCast, Int.toNat_natCast, w3, u8sD, u8sT, List.drop_left' rfl, Nat.add_sub_cancel_left, List.take_left' rfl]
      have bx : (decide ((1 : Nat) = 1 ∨ (gWr A).length = 0) && isBytes (gWr A)) = true := by rw [w1]; exact okBs
      have by' : (decide ((1 : Nat) = 1 ∨ (gWr B).length = 0) && isBytes (gWr B)) = true := by rw [w2]; exact okBs
      rw [k1, k2, k3, t1, t2] at hd
      refine law_run loops_none (n := 30) (hd.trans (bif_stepF ?_ (bif_step ?_ (bif_step ?_ (bif_step okBs (bif_step by' (bif_step ?_ (bif_step ?_ (bif_step okBs (bif_step bx (bif_stepF ?_ (bif_step bx (bif_step by' (bif_step ?_ ?_))))))))))))))
      · rw [e1, e2, e3]; rfl
      · rw [lz, decide_eq_false (by omega)]; rfl
      · rw [lz]; exact decide_eq_true (by omega)
      · rw [w2, beq_self_eq_true]; rfl
      · rw [lz]; exact decide_eq_true (by omega)
      · rw [w1, beq_self_eq_true]; rfl
      · show (cN A && cN B) = true
        rw [hc, hc']; rfl
      · rw [w1, w2, toBytes_u8s, toBytes_u8s, hsame]
        show some (IV.bool (gSa A B == gSa A B), ([] : List Blk)) = _
        rw [beq_self_eq_true]
end
end Go.Proofs.Ytolpgbgmldpneaa
