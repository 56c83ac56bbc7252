/- Packets: what is proved of the given program. It bears no condition. -/
import Derived.Test.YtgbddcdpbgaojaaAwC
namespace Go.Proofs.Ytgbddcdpbgaojaa
open Go Go.Im
set_option linter.unusedVariables false
set_option linter.unusedSimpArgs false
noncomputable section

/-! ### Fields -/
theorem x0 (x : XV) : nthD x.iv.cells 0 = .int .i64 x.a := Eq.trans rfl rfl
theorem x1 (x : XV) : nthD x.iv.cells 1 = .bool x.b := Eq.trans rfl rfl
theorem x2 (x : XV) : nthD x.iv.cells 2 = .bool x.c := Eq.trans rfl rfl
theorem x3 (x : XV) : nthD x.iv.cells 3 = .int .i64 x.d := Eq.trans rfl rfl
theorem x4 (x : XV) : nthD x.iv.cells 4 = .int .u32 x.ts := Eq.trans rfl rfl
theorem x5 (x : XV) : nthD x.iv.cells 5 = .int .u32 x.fs := Eq.trans rfl rfl
theorem x6 (x : XV) : nthD x.iv.cells 6 = .fsl x.n1 x.c1 x.z1 x.l1 := Eq.trans rfl rfl
theorem x7 (x : XV) : nthD x.iv.cells 7 = .fsl x.n2 x.c2 x.z2 x.l2 := Eq.trans rfl rfl
theorem x6' (x : XV) : nthD (x.iv.cells.drop 6) 0 = .fsl x.n1 x.c1 x.z1 x.l1 := Eq.trans rfl rfl
theorem x7' (x : XV) : nthD (x.iv.cells.drop 7) 0 = .fsl x.n2 x.c2 x.z2 x.l2 := Eq.trans rfl rfl
theorem xt (x : XV) : testAll ([LT.i IntKind.i64] ++ ([LT.b] ++ ([LT.b] ++ ([LT.i IntKind.i64] ++ ([LT.i IntKind.u32] ++ ([LT.i IntKind.u32] ++ ([LT.sl] ++ ([LT.sl] ++ [])))))))) 0 x.iv.cells = true := Eq.trans rfl rfl
theorem boolOf_b (b : Bool) : boolOf (.bool b) = b := Eq.trans rfl rfl
theorem rowL_f (n : Option Bool) (c : Bool) (z : Nat) (l : List IV) : rowL (.fsl n c z l) = l := Eq.trans rfl rfl
theorem nlOf_f (n : Option Bool) (c : Bool) (z : Nat) (l : List IV) : nlOf (.fsl n c z l) = n := Eq.trans rfl rfl
theorem clOf_f (n : Option Bool) (c : Bool) (z : Nat) (l : List IV) : clOf (.fsl n c z l) = c := Eq.trans rfl rfl
theorem szOf_f (n : Option Bool) (c : Bool) (z : Nat) (l : List IV) : szOf (.fsl n c z l) = z := Eq.trans rfl rfl
theorem isOf_f (n : Option Bool) (c : Bool) (z : Nat) (l : List IV) : isOf .sl (.fsl n c z l) = true := Eq.trans rfl rfl
theorem intOf_int' {k : IntKind} {n : Int} : intOf (.int k n) = n := Eq.trans rfl rfl
theorem toX_iv (v : XV) : toX v.iv = v := Eq.trans rfl rfl
theorem xeta (x : XV) : (⟨x.a, x.b, x.c, x.d, x.ts, x.fs, x.n1, x.c1, x.z1, x.l1, x.n2, x.c2, x.z2, x.l2⟩ : XV) = x := Eq.trans rfl rfl
theorem peta (p : PK) : (⟨p.le, p.ve, p.mo, p.st, p.po, p.pr, p.de, p.di, p.ri, p.rf, p.og, p.rc, p.xm, p.n1, p.c1, p.z1, p.es, p.ha, p.ky, p.n2, p.c2, p.z2, p.su⟩ : PK) = p := Eq.trans rfl rfl
/-- What a field must be for all that is said of it. -/
def XV.ok (v : XV) : Bool := decide ((v.z1 = 1 ∨ v.l1.length = 0) ∧ (v.z2 = 1 ∨ v.l2.length = 0) ∧ v.l1.length ≤ 140737488355328 ∧ v.l2.length ≤ 140737488355328) && (okB v.l1 && okB v.l2)
def isX (x : IV) : Bool := match x with
  | .agg [.int .i64 _, .bool _, .bool _, .int .i64 _, .int .u32 _, .int .u32 _, .fsl .., .fsl ..] => (toX x).ok
  | _ => false
theorem isX_eq {x : IV} (h : isX x = true) : x = (toX x).iv ∧ (toX x).ok = true := by
  unfold isX at h
  split at h
  · exact ⟨rfl, h⟩
  · cases h
theorem isX_iv (v : XV) : isX v.iv = v.ok := rfl
def xsOf (es : List IV) : List XV := es.map toX
theorem xs_eq {es : List IV} (h : es.all isX = true) : es = (xsOf es).map XV.iv ∧ ∀ v ∈ xsOf es, v.ok = true := by
  induction es with
  | nil => exact ⟨rfl, fun _ h => by cases h⟩
  | cons x es ih =>
    simp only [List.all_cons, Bool.and_eq_true] at h
    obtain ⟨h1, h2⟩ := isX_eq h.1
    obtain ⟨h3, h4⟩ := ih h.2
    refine ⟨?_, ?_⟩
    · simp only [xsOf, List.map_cons] at h3 ⊢
      rw [← h1, ← h3]
    · intro v hv
      simp only [xsOf, List.map_cons, List.mem_cons] at hv
      rcases hv with rfl | hv
      · exact h2
      · exact h4 v hv
theorem xs_iv (vs : List XV) : xsOf (vs.map XV.iv) = vs := by
  simp only [xsOf, List.map_map]
  rw [show toX ∘ XV.iv = id from funext toX_iv, List.map_id]
theorem ok_iff {v : XV} : v.ok = true ↔ ((v.z1 = 1 ∨ v.l1.length = 0) ∧ (v.z2 = 1 ∨ v.l2.length = 0) ∧ v.l1.length ≤ 140737488355328 ∧ v.l2.length ≤ 140737488355328) ∧ okB v.l1 = true ∧ okB v.l2 = true := by
  simp only [XV.ok, Bool.and_eq_true, decide_eq_true_eq]
theorem isBytes_ok {xs : List IV} (h : okB xs = true) : isBytes xs = true := by rw [okB_eq h]; exact isBytes_u8s _
/-- A packet's fields and sum are rows. -/
def PK.ok (p : PK) : Bool := decide ((p.z1 = 8 ∨ p.es.length = 0) ∧ (p.z2 = 1 ∨ p.su.length = 0) ∧ p.es.length ≤ 140737488355328 ∧ p.su.length ≤ 140737488355328) && (okB p.su && p.es.all isX)
theorem pok_iff {p : PK} : p.ok = true ↔ ((p.z1 = 8 ∨ p.es.length = 0) ∧ (p.z2 = 1 ∨ p.su.length = 0) ∧ p.es.length ≤ 140737488355328 ∧ p.su.length ≤ 140737488355328) ∧ okB p.su = true ∧ p.es.all isX = true := by
  simp only [PK.ok, Bool.and_eq_true, decide_eq_true_eq]
def PK.xs (p : PK) : List XV := xsOf p.es
theorem PK.xs_len (p : PK) : p.xs.length = p.es.length := by simp [PK.xs, xsOf]
theorem pk_es {p : PK} (h : p.ok = true) : p.es = p.xs.map XV.iv ∧ ∀ v ∈ p.xs, v.ok = true := xs_eq (pok_iff.1 h).2.2
theorem pk_nth {p : PK} (h : p.ok = true) {i : Nat} (hi : i < p.xs.length) : nthD p.es ((i : Int)).toNat = (p.xs[i]).iv := by
  rw [(pk_es h).1, Int.toNat_natCast, nthD_mapf]
theorem pk_z {p : PK} (h : p.ok = true) {i : Nat} (hi : i < p.xs.length) : p.z1 = 8 := by
  have := (pok_iff.1 h).1.1
  rw [PK.xs_len] at hi
  omega

theorem clone_known : Known Try.prog hint 45 (cloneP cloneC) := by
  refine known_frz fits ?_
  intro xs T v T1 h
  unfold cloneP at h
  split at h
  · rename_i nl cl z l
    simp only [List.mem_cons, List.not_mem_nil, or_false, Prod.mk.injEq, Bool.true_eq, cloneC, decide_eq_true_eq] at h
    obtain ⟨⟨h1, h2⟩, rfl, rfl⟩ := h
    have hr : ∀ ys ∈ [[IV.fsl (some false) cl z l]], ∃ n v0 T2 v1 fr, callK Try.prog hint (tab []) (fun _ _ => none) n 45 ys [] (fun v T => some (v, T)) = some (v0, T2) ∧ frz T2 v0 = some (v1, fr) ∧ Wk v1 (.fsl none false 1 l) := by
      intro ys hy
      rw [List.mem_singleton] at hy
      subst hy
      refine ⟨30, .osl 0 0, [.row 0 false 1 l], .fsl none false 1 l, [0], (cl2 cl z l).trans ?_, rfl, ?_⟩
      · exact bif_step (decide_eq_true h1) (bif_step (decide_eq_true (by (simp only [List.length_append, List.length_cons, List.length_nil, List.length_replicate, List.length_map, u8s_len, be_len, roomB_nat, roomB_val, maxLen_val, Nat.mul_one] at *); omega)) rfl)
      · exact Wk.fsl (by rfl) (.inl rfl) (by simp) (.inl rfl)
    refine ⟨rfl, rfl, _, ?_, Splits.nil1, ?_⟩
    · split <;> simp
    intro ys hy
    split at hy
    · rename_i hl
      subst hl
      rcases List.mem_cons.1 hy with rfl | hy
      · refine ⟨noGd_of rfl, tab [], fun _ _ => none, tab_nil, loops_none, 30, .fsl (some true) true 0 [], [], .fsl (some true) true 0 [], [], (cl1 cl z).trans rfl, rfl, ?_⟩
        exact Wk.fsl rfl (.inl rfl) (by simp) (.inr rfl)
      · obtain ⟨n, v0, T2, v1, fr, q⟩ := hr ys hy
        rw [List.mem_singleton] at hy
        subst hy
        exact ⟨noGd_of rfl, tab [], fun _ _ => none, tab_nil, loops_none, n, v0, T2, v1, fr, q⟩
    · obtain ⟨n, v0, T2, v1, fr, q⟩ := hr ys hy
      rw [List.mem_singleton] at hy
      subst hy
      exact ⟨noGd_of rfl, tab [], fun _ _ => none, tab_nil, loops_none, n, v0, T2, v1, fr, q⟩
  · cases h
end
end Go.Proofs.Ytgbddcdpbgaojaa
