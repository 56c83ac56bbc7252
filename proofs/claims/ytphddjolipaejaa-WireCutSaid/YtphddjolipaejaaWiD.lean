/- Packets: what is proved of the given program. It bears no condition. -/
import Derived.Test.YtphddjolipaejaaWiC
namespace Go.Proofs.Ytphddjolipaejaa
open Go Go.Im
set_option linter.unusedVariables false
set_option linter.unusedSimpArgs false
noncomputable section

/-! ### Fields -/
theorem x0 (x : XV) : nthD x.iv.cells 0 = .int .i64 x.a := Eq.trans rfl rfl
theorem x1 (x : XV) : nthD x.iv.cells 1 = .bool x.b := Eq.trans rfl rfl
theorem x2 (x : XV) : nthD x.iv.cells 2 = .bool x.c := Eq.trans rfl rfl
theorem x3 (x : XV) : nthD x.iv.cells 3 = .int .i64 x.d := Eq.trans rfl rfl
theorem x4 (x : XV) : nthD x.iv.cells 4 = .int .u32 x.ts := Eq.trans rfl rfl
theorem x5 (x : XV) : nthD x.iv.cells 5 = .int .u32 x.fs := Eq.trans rfl rfl
theorem x6 (x : XV) : nthD x.iv.cells 6 = .fsl x.n1 x.c1 x.z1 x.l1 := Eq.trans rfl rfl
theorem x7 (x : XV) : nthD x.iv.cells 7 = .fsl x.n2 x.c2 x.z2 x.l2 := Eq.trans rfl rfl
theorem x6' (x : XV) : nthD (x.iv.cells.drop 6) 0 = .fsl x.n1 x.c1 x.z1 x.l1 := Eq.trans rfl rfl
theorem x7' (x : XV) : nthD (x.iv.cells.drop 7) 0 = .fsl x.n2 x.c2 x.z2 x.l2 := Eq.trans rfl rfl
theorem xt (x : XV) : testAll ([LT.i IntKind.i64] ++ ([LT.b] ++ ([LT.b] ++ ([LT.i IntKind.i64] ++ ([LT.i IntKind.u32] ++ ([LT.i IntKind.u32] ++ ([LT.sl] ++ ([LT.sl] ++ [])))))))) 0 x.iv.cells = true := Eq.trans rfl rfl
theorem boolOf_b (b : Bool) : boolOf (.bool b) = b := Eq.trans rfl rfl
theorem rowL_f (n : Option Bool) (c : Bool) (z : Nat) (l : List IV) : rowL (.fsl n c z l) = l := Eq.trans rfl rfl
theorem nlOf_f (n : Option Bool) (c : Bool) (z : Nat) (l : List IV) : nlOf (.fsl n c z l) = n := Eq.trans rfl rfl
theorem clOf_f (n : Option Bool) (c : Bool) (z : Nat) (l : List IV) : clOf (.fsl n c z l) = c := Eq.trans rfl rfl
theorem szOf_f (n : Option Bool) (c : Bool) (z : Nat) (l : List IV) : szOf (.fsl n c z l) = z := Eq.trans rfl rfl
theorem isOf_f (n : Option Bool) (c : Bool) (z : Nat) (l : List IV) : isOf .sl (.fsl n c z l) = true := Eq.trans rfl rfl
theorem intOf_int' {k : IntKind} {n : Int} : intOf (.int k n) = n := Eq.trans rfl rfl
theorem toX_iv (v : XV) : toX v.iv = v := Eq.trans rfl rfl
theorem xeta (x : XV) : (⟨x.a, x.b, x.c, x.d, x.ts, x.fs, x.n1, x.c1, x.z1, x.l1, x.n2, x.c2, x.z2, x.l2⟩ : XV) = x := Eq.trans rfl rfl
theorem peta (p : PK) : (⟨p.le, p.ve, p.mo, p.st, p.po, p.pr, p.de, p.di, p.ri, p.rf, p.og, p.rc, p.xm, p.n1, p.c1, p.z1, p.es, p.ha, p.ky, p.n2, p.c2, p.z2, p.su⟩ : PK) = p := Eq.trans rfl rfl
/-- What a field must be for all that is said of it. -/
def XV.ok (v : XV) : Bool := decide ((v.z1 = 1 ∨ v.l1.length = 0) ∧ (v.z2 = 1 ∨ v.l2.length = 0) ∧ v.l1.length ≤ 140737488355328 ∧ v.l2.length ≤ 140737488355328) && (okB v.l1 && okB v.l2)
def isX (x : IV) : Bool := match x with
  | .agg [.int .i64 _, .bool _, .bool _, .int .i64 _, .int .u32 _, .int .u32 _, .fsl .., .fsl ..] => (toX x).ok
  | _ => false
theorem isX_eq {x : IV} (h : isX x = true) : x = (toX x).iv ∧ (toX x).ok = true := by
  unfold isX at h
  split at h
  · exact ⟨rfl, h⟩
  · cases h
theorem isX_iv (v : XV) : isX v.iv = v.ok := rfl
def xsOf (es : List IV) : List XV := es.map toX
theorem xs_eq {es : List IV} (h : es.all isX = true) : es = (xsOf es).map XV.iv ∧ ∀ v ∈ xsOf es, v.ok = true := by
  induction es with
  | nil => exact ⟨rfl, fun _ h => by cases h⟩
  | cons x es ih =>
    simp only [List.all_cons, Bool.and_eq_true] at h
    obtain ⟨h1, h2⟩ := isX_eq h.1
    obtain ⟨h3, h4⟩ := ih h.2
    refine ⟨?_, ?_⟩
    · simp only [xsOf, List.map_cons] at h3 ⊢
      rw [← h1, ← h3]
    · intro v hv
      simp only [xsOf, List.map_cons, List.mem_cons] at hv
      rcases hv with rfl | hv
      · exact h2
      · exact h4 v hv
theorem xs_iv (vs : List XV) : xsOf (vs.map XV.iv) = vs := by
  simp only [xsOf, List.map_map]
  rw [show toX ∘ XV.iv = id from funext toX_iv, List.map_id]
theorem ok_iff {v : XV} : v.ok = true ↔ ((v.z1 = 1 ∨ v.l1.length = 0) ∧ (v.z2 = 1 ∨ v.l2.length = 0) ∧ v.l1.length ≤ 140737488355328 ∧ v.l2.length ≤ 140737488355328) ∧ okB v.l1 = true ∧ okB v.l2 = true := by
  simp only [XV.ok, Bool.and_eq_true, decide_eq_true_eq]
theorem isBytes_ok {xs : List IV} (h : okB xs = true) : isBytes xs = true := by rw [okB_eq h]; exact isBytes_u8s _
/-- A packet's fields and sum are rows. -/
def PK.ok (p : PK) : Bool := decide ((p.z1 = 8 ∨ p.es.length = 0) ∧ (p.z2 = 1 ∨ p.su.length = 0) ∧ p.es.length ≤ 140737488355328 ∧ p.su.length ≤ 140737488355328) && (okB p.su && p.es.all isX)
theorem pok_iff {p : PK} : p.ok = true ↔ ((p.z1 = 8 ∨ p.es.length = 0) ∧ (p.z2 = 1 ∨ p.su.length = 0) ∧ p.es.length ≤ 140737488355328 ∧ p.su.length ≤ 140737488355328) ∧ okB p.su = true ∧ p.es.all isX = true := by
  simp only [PK.ok, Bool.and_eq_true, decide_eq_true_eq]
def PK.xs (p : PK) : List XV := xsOf p.es
theorem PK.xs_len (p : PK) : p.xs.length = p.es.length := by simp [PK.xs, xsOf]
theorem pk_es {p : PK} (h : p.ok = true) : p.es = p.xs.map XV.iv ∧ ∀ v ∈ p.xs, v.ok = true := xs_eq (pok_iff.1 h).2.2
theorem pk_nth {p : PK} (h : p.ok = true) {i : Nat} (hi : i < p.xs.length) : nthD p.es ((i : Int)).toNat = (p.xs[i]).iv := by
  rw [(pk_es h).1, Int.toNat_natCast, nthD_mapf]
theorem pk_z {p : PK} (h : p.ok = true) {i : Nat} (hi : i < p.xs.length) : p.z1 = 8 := by
  have := (pok_iff.1 h).1.1
  rw [PK.xs_len] at hi
  omega

/-! ### Contracts by packets and fields -/
theorem pkP_mem {c : PK → Bool} {g : PK → IV} {xs : List IV} {T : List Blk} {v : IV} {T1 : List Blk} (h : (true, v, T1) ∈ pkP c g xs T) : ∃ p : PK, xs = [p.iv] ∧ T = [] ∧ c p = true ∧ v = g p ∧ T1 = [] := by
  unfold pkP at h
  split at h
  · rename_i le ve mo st po pr de di ri rf og rc xm n1 c1 z1 es ha ky n2 c2 z2 su
    simp only [List.mem_cons, List.not_mem_nil, or_false, Prod.mk.injEq, Bool.true_eq] at h
    exact ⟨⟨le, ve, mo, st, po, pr, de, di, ri, rf, og, rc, xm, n1, c1, z1, es, ha, ky, n2, c2, z2, su⟩, rfl, rfl, h.1, h.2.1, h.2.2⟩
  · cases h
theorem xP_mem {k : IntKind} {c : XV → Bool} {g : XV → Int} {xs : List IV} {T : List Blk} {v : IV} {T1 : List Blk} (h : (true, v, T1) ∈ xP k c g xs T) : ∃ x : XV, xs = [x.iv] ∧ T = [] ∧ c x = true ∧ v = .int k (g x) ∧ T1 = [] := by
  unfold xP at h
  split at h
  · rename_i a b c' d ts fs n1 c1 z1 l1 n2 c2 z2 l2
    simp only [List.mem_cons, List.not_mem_nil, or_false, Prod.mk.injEq, Bool.true_eq] at h
    exact ⟨⟨a, b, c', d, ts, fs, n1, c1, z1, l1, n2, c2, z2, l2⟩, rfl, rfl, h.1, h.2.1, h.2.2⟩
  · cases h
theorem xRowP_mem {c : XV → Bool} {g : XV → List IV} {xs : List IV} {T : List Blk} {v : IV} {T1 : List Blk} (h : (true, v, T1) ∈ xRowP c g xs T) : ∃ x : XV, xs = [x.iv] ∧ T = [] ∧ c x = true ∧ v = .osl 0 0 ∧ T1 = [.row 0 false 1 (g x)] := by
  unfold xRowP at h
  split at h
  · rename_i a b c' d ts fs n1 c1 z1 l1 n2 c2 z2 l2
    simp only [List.mem_cons, List.not_mem_nil, or_false, Prod.mk.injEq, Bool.true_eq] at h
    exact ⟨⟨a, b, c', d, ts, fs, n1, c1, z1, l1, n2, c2, z2, l2⟩, rfl, rfl, h.1, h.2.1, h.2.2⟩
  · cases h
theorem xxP_mem {c g : XV → XV → Bool} {xs : List IV} {T : List Blk} {v : IV} {T1 : List Blk} (h : (true, v, T1) ∈ xxP c g xs T) : ∃ x y : XV, xs = [x.iv, y.iv] ∧ T = [] ∧ c x y = true ∧ v = .bool (g x y) ∧ T1 = [] := by
  unfold xxP at h
  split at h
  · rename_i a b c' d ts fs n1 c1 z1 l1 n2 c2 z2 l2 a' b' c'' d' ts' fs' n1' c1' z1' l1' n2' c2' z2' l2'
    simp only [List.mem_cons, List.not_mem_nil, or_false, Prod.mk.injEq, Bool.true_eq] at h
    exact ⟨⟨a, b, c', d, ts, fs, n1, c1, z1, l1, n2, c2, z2, l2⟩, ⟨a', b', c'', d', ts', fs', n1', c1', z1', l1', n2', c2', z2', l2'⟩, rfl, rfl, h.1, h.2.1, h.2.2⟩
  · cases h
theorem macP_mem {c1 c2 : Bool → Int → Nat → List IV → Bool} {g : Int → List IV → List IV} {xs : List IV} {T : List Blk} {v : IV} {T1 : List Blk} (h : (true, v, T1) ∈ macP c1 c2 g xs T) : ∃ hh k nl cl z l, xs = [.agg [.bool hh, .int .u32 k, .fsl nl cl z l]] ∧ T = [] ∧
    ((c1 hh k z l = true ∧ v = .fsl (some true) true 0 [] ∧ T1 = []) ∨ (c2 hh k z l = true ∧ v = .osl 0 0 ∧ T1 = [.row 0 false 1 (g k l)])) := by
  unfold macP at h
  split at h
  · rename_i hh k nl cl z l
    simp only [List.mem_cons, List.not_mem_nil, or_false, Prod.mk.injEq, Bool.true_eq] at h
    exact ⟨hh, k, nl, cl, z, l, rfl, rfl, h⟩
  · cases h
theorem hvL_mem {d1 d2 : PK → Int → Int → Bool} {g1 g2 g3 : PK → Int → Int} {vs : List IV} {bx : List Blk} {e : Ex} {vs' : List IV} {bx' : List Blk} (h : (true, e, vs', bx') ∈ hvL d1 g1 d2 g2 g3 vs bx) :
    ∃ (b : Bool) (n i : Int) (p : PK), vs = [.ptr 0 0, .bool b, .int .i64 n, .int .i64 i] ∧ bx = [.var false p.cells] ∧ bx' = [.var false p.cells] ∧
      ((d1 p n i = true ∧ e = .exit 0 ∧ vs' = [.ptr 0 0, .bool b, .int .i64 (g1 p n), .int .i64 (p.es.length : Int)]) ∨ (d2 p n i = true ∧ e = .ret ∧ vs' = [.ptr 0 0, .bool true, .int .i64 (g2 p n), .int .i64 (g3 p n)])) := by
  unfold hvL at h
  split at h
  · rename_i b n i le ve mo st po pr de di ri rf og rc xm n1 c1 z1 es ha ky n2 c2 z2 su
    simp only [List.mem_cons, List.not_mem_nil, or_false, Prod.mk.injEq, Bool.true_eq] at h
    refine ⟨b, n, i, ⟨le, ve, mo, st, po, pr, de, di, ri, rf, og, rc, xm, n1, c1, z1, es, ha, ky, n2, c2, z2, su⟩, rfl, rfl, ?_, ?_⟩
    · rcases h with h | h <;> exact h.2.2.2
    · rcases h with h | h
      · exact .inl ⟨h.1, h.2.1, h.2.2.1⟩
      · exact .inr ⟨h.1, h.2.1, h.2.2.1⟩
  · cases h
theorem rrL_mem {d1 d2 : PK → Int → Int → Bool} {g1 g2 g3 : PK → Int → Int} {vs : List IV} {bx : List Blk} {e : Ex} {vs' : List IV} {bx' : List Blk} (h : (true, e, vs', bx') ∈ rrL d1 g1 d2 g2 g3 vs bx) :
    ∃ (b n i : Int) (p : PK), vs = [.ptr 0 0, .int .i64 b, .int .i64 n, .int .i64 i] ∧ bx = [.var false p.cells] ∧ bx' = [.var false p.cells] ∧
      ((d1 p n i = true ∧ e = .exit 0 ∧ vs' = [.ptr 0 0, .int .i64 b, .int .i64 (g1 p n), .int .i64 (p.es.length : Int)]) ∨ (d2 p n i = true ∧ e = .ret ∧ vs' = [.ptr 0 0, .int .i64 3, .int .i64 (g2 p n), .int .i64 (g3 p n)])) := by
  unfold rrL at h
  split at h
  · rename_i b n i le ve mo st po pr de di ri rf og rc xm n1 c1 z1 es ha ky n2 c2 z2 su
    simp only [List.mem_cons, List.not_mem_nil, or_false, Prod.mk.injEq, Bool.true_eq] at h
    refine ⟨b, n, i, ⟨le, ve, mo, st, po, pr, de, di, ri, rf, og, rc, xm, n1, c1, z1, es, ha, ky, n2, c2, z2, su⟩, rfl, rfl, ?_, ?_⟩
    · rcases h with h | h <;> exact h.2.2.2
    · rcases h with h | h
      · exact .inl ⟨h.1, h.2.1, h.2.2.1⟩
      · exact .inr ⟨h.1, h.2.1, h.2.2.1⟩
  · cases h
theorem rtL_mem {d : Bool → Int → Nat → List IV → Int → Int → Bool} {gb : Bool → List IV → Bool} {gn : Int → List IV → Int} {vs : List IV} {bx : List Blk} {e : Ex} {vs' : List IV} {bx' : List Blk} (h : (true, e, vs', bx') ∈ rtL d gb gn vs bx) :
    ∃ (b : Bool) (n len i : Int) (nl : Option Bool) (cl : Bool) (z : Nat) (l : List IV) (p : PK), vs = [.ptr 0 0, .bool b, .int .i64 n, .fsl nl cl z l, .int .i64 len, .int .i64 i] ∧ bx = [.var false p.cells] ∧ bx' = [.var false p.cells] ∧
      d b n z l len i = true ∧ e = .exit 0 ∧ vs' = [.ptr 0 0, .bool (gb b l), .int .i64 (gn n l), .fsl nl cl z l, .int .i64 len, .int .i64 len] := by
  unfold rtL at h
  split at h
  · rename_i b n nl cl z l len i le ve mo st po pr de di ri rf og rc xm n1 c1 z1 es ha ky n2 c2 z2 su
    simp only [List.mem_cons, List.not_mem_nil, or_false, Prod.mk.injEq, Bool.true_eq] at h
    exact ⟨b, n, len, i, nl, cl, z, l, ⟨le, ve, mo, st, po, pr, de, di, ri, rf, og, rc, xm, n1, c1, z1, es, ha, ky, n2, c2, z2, su⟩, rfl, rfl, h.2.2.2, h.1, h.2.1, h.2.2.1⟩
  · cases h
theorem smL_mem {d1 d2 : PK → PK → Int → Bool} {g : PK → PK → Int} {vs : List IV} {bx : List Blk} {e : Ex} {vs' : List IV} {bx' : List Blk} (h : (true, e, vs', bx') ∈ smL d1 d2 g vs bx) :
    ∃ (b : Bool) (i : Int) (p q : PK), vs = [.ptr 0 0, .ptr 1 0, .bool b, .int .i64 i] ∧ bx = [.var false p.cells, .var false q.cells] ∧ bx' = [.var false p.cells, .var false q.cells] ∧
      ((d1 p q i = true ∧ e = .exit 0 ∧ vs' = [.ptr 0 0, .ptr 1 0, .bool b, .int .i64 (p.es.length : Int)]) ∨ (d2 p q i = true ∧ e = .ret ∧ vs' = [.ptr 0 0, .ptr 1 0, .bool false, .int .i64 (g p q)])) := by
  unfold smL at h
  split at h
  · rename_i b i le ve mo st po pr de di ri rf og rc xm n1 c1 z1 es ha ky n2 c2 z2 su le' ve' mo' st' po' pr' de' di' ri' rf' og' rc' xm' n1' c1' z1' es' ha' ky' n2' c2' z2' su'
    simp only [List.mem_cons, List.not_mem_nil, or_false, Prod.mk.injEq, Bool.true_eq] at h
    refine ⟨b, i, ⟨le, ve, mo, st, po, pr, de, di, ri, rf, og, rc, xm, n1, c1, z1, es, ha, ky, n2, c2, z2, su⟩, ⟨le', ve', mo', st', po', pr', de', di', ri', rf', og', rc', xm', n1', c1', z1', es', ha', ky', n2', c2', z2', su'⟩, rfl, rfl, ?_, ?_⟩
    · rcases h with h | h <;> exact h.2.2.2
    · rcases h with h | h
      · exact .inl ⟨h.1, h.2.1, h.2.2.1⟩
      · exact .inr ⟨h.1, h.2.1, h.2.2.1⟩
  · cases h

end
end Go.Proofs.Ytphddjolipaejaa
