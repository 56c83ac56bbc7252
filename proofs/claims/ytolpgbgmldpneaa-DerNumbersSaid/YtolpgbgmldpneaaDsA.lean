/- DerWrites at all arguments that are not too great. It bears no condition. -/
import Derived.Test.YtolpgbgmldpneaaDrZ
import Derived.Test.YtolpgbgmldpneaaIm5
namespace Go.Proofs.Ytolpgbgmldpneaa
open Go Go.Im
set_option linter.unusedVariables false
set_option linter.unusedSimpArgs false
set_option maxRecDepth 20000
noncomputable section

/-! ### Same -/
mutual
def Nd.same : Nd → Nd → Bool
  | .mk t b ks, y => t == y.tag && (b == y.bytes && sames ks y.kids)
def sames : List Nd → List Nd → Bool
  | [], [] => true
  | k :: ks, k' :: ks' => k.same k' && sames ks ks'
  | _, _ => false
end
theorem same_mk (x y : Nd) : x.same y = (x.tag == y.tag && (x.bytes == y.bytes && sames x.kids y.kids)) := by cases x; unfold Nd.same; rfl
theorem sames_len : ∀ {a b : List Nd}, a.length ≠ b.length → sames a b = false
  | [], [], h => absurd rfl h
  | [], _ :: _, _ => rfl
  | _ :: _, [], _ => rfl
  | k :: ks, k' :: ks', h => by
    unfold sames
    rw [sames_len (a := ks) (b := ks') (fun e => h (by simp [e])), Bool.and_false]
def cSa (d : Nat) (a b : IV) : Bool := cD d a && cN b
def gSa (a b : IV) : Bool := (ndOf a).same (ndOf b)
theorem sames_zip : ∀ {ks ks' : List IV}, ks.length = ks'.length → sames (ks.map ndOf) (ks'.map ndOf) = (ks.zip ks').all fun p => gSa p.1 p.2
  | [], [], _ => rfl
  | k :: ks, k' :: ks', h => by
    rw [List.zip_cons_cons, List.all_cons, ← sames_zip (by simpa using h)]
    rfl
/-- A value that is not too great, laid open. -/
theorem nd_openN {t : Int} {n1 : Option Bool} {c1 : Bool} {z1 : Nat} {bs : List IV} {n2 : Option Bool} {c2 : Bool} {z2 : Nat} {ks : List IV} (h : cN (ndV t n1 c1 z1 bs n2 c2 z2 ks) = true) :
    ∃ N : Nd, ndOf (ndV t n1 c1 z1 bs n2 c2 z2 ks) = N ∧ t = N.tag ∧ bs = u8s N.bytes ∧ N.kids = ks.map ndOf ∧ (∀ k ∈ ks, cN k = true ∧ okNd k = true) ∧ (z1 = 1 ∨ N.bytes = []) ∧ (z2 = 3 ∨ ks = []) ∧ N.bytes.length + szs (ks.map ndOf) ≤ 100000000 - 8 ∧ ks.length ≤ szs (ks.map ndOf) := by
  have hd := cD_self h
  have hp := dp_pos (ndOf (ndV t n1 c1 z1 bs n2 c2 z2 ks))
  obtain ⟨e, he⟩ : ∃ e, (ndOf (ndV t n1 c1 z1 bs n2 c2 z2 ks)).dp = e + 1 := ⟨_, (Nat.sub_add_cancel hp).symm⟩
  rw [he] at hd
  obtain ⟨N, h1, h2, h3, h4, h5, h6, h7, h8, h9⟩ := nd_open hd
  exact ⟨N, h1, h2, h3, h4, fun k hm => ⟨cN_of (h5 k hm).1, (h5 k hm).2⟩, h6, h7, by omega, h9⟩
theorem sa_runs {d : Nat} {t : Int} {n1 : Option Bool} {c1 : Bool} {z1 : Nat} {bs : List IV} {n2 : Option Bool} {c2 : Bool} {z2 : Nat} {ks : List IV} {t' : Int} {n1' : Option Bool} {c1' : Bool} {z1' : Nat} {bs' : List IV} {n2' : Option Bool} {c2' : Bool} {z2' : Nat} {ks' : List IV}
    (hz : z2 = 3 ∨ ks = []) (hk : ∀ k ∈ ks, cD d k = true ∧ okNd k = true) (hl : ks.length ≤ 100000000) (hz' : z2' = 3 ∨ ks' = []) (hk' : ∀ k ∈ ks', cN k = true ∧ okNd k = true) (he : ks.length = ks'.length) :
    EachOK Try.prog hint (acall Try.prog hint (ovrOf (tab [(16, ltP (cSa d) gSa)]))) 0 (hint.kp 16) (loopAt Try.prog 16 58) (Sx 16 [.ptr 0 0, .ptr 1 0, .bool false, .int .i64 ((0 : Nat) : Int)] (saB t n1 c1 z1 bs n2 c2 z2 ks t' n1' c1' z1' bs' n2' c2' z2' ks')) (.exit 0)
      (fun _ : Unit => Sx 16 [.ptr 0 0, .ptr 1 0, .bool false, .int .i64 (ks.length : Int)] (saB t n1 c1 z1 bs n2 c2 z2 ks t' n1' c1' z1' bs' n2' c2' z2' ks')) (foldE (fun i (_ : Unit) (p : IV × IV) => if (!gSa p.1 p.2) = true then .inr (Ex.ret, Sx 16 [.ptr 0 0, .ptr 1 0, .bool false, .int .i64 (i : Int)] (saB t n1 c1 z1 bs n2 c2 z2 ks t' n1' c1' z1' bs' n2' c2' z2' ks')) else .inl ()) 0 () (ks.zip ks')) := by
  have hlz : (ks.zip ks').length = ks.length := by rw [List.length_zip]; omega
  refine runs_each (X := Unit) (l := ks.zip ks') (n := 30) (ls := fun _ _ => none) loops_none inner0 (fun i _ => Sx 16 [.ptr 0 0, .ptr 1 0, .bool false, .int .i64 (i : Int)] (saB t n1 c1 z1 bs n2 c2 z2 ks t' n1' c1' z1' bs' n2' c2' z2' ks')) _
    (fun _ _ => True) (by simp) ?_ ?_ (ks.zip ks').length 0 () (by omega) trivial
  · intro i u hi _
    have hi1 : i < ks.length := by omega
    have hi2 : i < ks'.length := by omega
    obtain ⟨k1, k2⟩ := hk _ (List.getElem_mem hi1)
    obtain ⟨m1, m2⟩ := hk' _ (List.getElem_mem hi2)
    have hz3 : z2 = 3 := hz.resolve_right fun h => by rw [h] at hi1; simp at hi1
    have hz4 : z2' = 3 := hz'.resolve_right fun h => by rw [h] at hi2; simp at hi2
    have ht := sa_in (cSa d) gSa t n1 c1 z1 bs n2 c2 z2 ks t' n1' c1' z1' bs' n2' c2' z2' ks' i
    rw [nthD_at hi1, nthD_at hi2, kdV_eq k2, kdV_eq m2, kdT k2, kdT m2, wadd1 (by omega)] at ht
    have hc : cSa d ks[i] ks'[i] = true := by unfold cSa; rw [k1, m1]; rfl
    replace ht := fun r q => ht.trans (bif_step (r := r) (decide_eq_true (by omega)) (bif_step (decide_eq_true ⟨hz3, by omega, by omega⟩) (bif_step rfl (bif_step (decide_eq_true ⟨hz4, by omega, by omega⟩) (bif_step rfl (bif_step hc q))))))
    rw [List.getElem_zip]
    cases h : !gSa ks[i] ks'[i]
    · exact .inl ⟨(), if_neg (by simp [h]), ht _ (bif_stepF h rfl), trivial⟩
    · exact .inr ⟨_, _, if_pos rfl, by simp, ht _ (bif_step h rfl)⟩
  · intro _ _
    rw [hlz]
    have ht := sa_in (cSa d) gSa t n1 c1 z1 bs n2 c2 z2 ks t' n1' c1' z1' bs' n2' c2' z2' ks' ks.length
    exact ht.trans (bif_stepF (decide_eq_false (by omega)) rfl)
theorem sa_d : ∀ d : Nat, Known Try.prog hint 16 (ltP (cSa d) gSa)
  | 0 => known_each fun xs T v T1 h => by
    exfalso
    unfold ltP at h
    split at h
    · simp only [List.mem_cons, List.not_mem_nil, or_false, Prod.mk.injEq, Bool.true_eq, cSa, Bool.and_eq_true] at h
      exact no_d0 h.1.1
    · cases h
  | d + 1 => by
    have ih := sa_d d
    refine known_ralt fits fun us T v T1 h => ?_
    unfold ltP at h
    split at h
    case h_2 => cases h
    rename_i t n1 c1 z1 bs n2 c2 z2 ks t' n1' c1' z1' bs' n2' c2' z2' ks'
    simp only [List.mem_cons, List.not_mem_nil, or_false, Prod.mk.injEq, Bool.true_eq, cSa, Bool.and_eq_true] at h
    obtain ⟨⟨h3, h4⟩, rfl, rfl⟩ := h
    obtain ⟨N, hN, rfl, rfl, hk, hkk, hz1, hz2, hsz, hll⟩ := nd_open h3
    obtain ⟨M, hM, rfl, rfl, hk', hkk', hz1', hz2', hsz', hll'⟩ := nd_openN h4
    refine ⟨[[.agg [.int .i64 N.tag, .fsl n1 c1 z1 (u8s N.bytes), .fsl n2 c2 z2 ks], .agg [.int .i64 M.tag, .fsl n1' c1' z1' (u8s M.bytes), .fsl n2' c2' z2' ks']]], by simp, Splits.self _, fun ys hy => ?_⟩
    rw [List.mem_singleton] at hy
    subst hy
    have htab : ∀ f F, tab [(16, ltP (cSa d) gSa)] f = some F → Known Try.prog hint f F := tab_cons ih tab_nil
    have hg : gSa (ndV N.tag n1 c1 z1 (u8s N.bytes) n2 c2 z2 ks) (ndV M.tag n1' c1' z1' (u8s M.bytes) n2' c2' z2' ks') = (N.tag == M.tag && (N.bytes == M.bytes && sames (ks.map ndOf) (ks'.map ndOf))) := by
      unfold gSa
      rw [hN, hM, same_mk, hk, hk']
    rw [hg]
    have b1 : (decide (z1 = 1 ∨ (u8s N.bytes).length = 0) && isBytes (u8s N.bytes)) = true := by rw [isBytes_u8s, decide_eq_true (hz1.imp id fun h => by rw [h]; rfl)]; rfl
    have b2 : (decide (z1' = 1 ∨ (u8s M.bytes).length = 0) && isBytes (u8s M.bytes)) = true := by rw [isBytes_u8s, decide_eq_true (hz1'.imp id fun h => by rw [h]; rfl)]; rfl
    by_cases hlen : ks.length = ks'.length
    · have q := sa_runs (d := d) (t := N.tag) (n1 := n1) (c1 := c1) (z1 := z1) (bs := u8s N.bytes) (n2 := n2) (c2 := c2) (t' := M.tag) (n1' := n1') (c1' := c1') (z1' := z1') (bs' := u8s M.bytes) (n2' := n2') (c2' := c2') hz2 hkk (by omega) hz2' hkk' hlen
      rw [foldE_find (fun p : IV × IV => !gSa p.1 p.2) (fun i => (Ex.ret, Sx 16 [.ptr 0 0, .ptr 1 0, .bool false, .int .i64 (i : Int)] (saB N.tag n1 c1 z1 (u8s N.bytes) n2 c2 z2 ks M.tag n1' c1' z1' (u8s M.bytes) n2' c2' z2' ks')))] at q
      rw [sames_zip hlen]
      have hne : ((ks.length : Int) != (ks'.length : Int)) = false := by rw [hlen]; simp
      cases hf : (ks.zip ks').findIdx? (fun p => !gSa p.1 p.2) with
      | none =>
        rw [hf] at q
        rw [(all_find (fun p : IV × IV => gSa p.1 p.2) (ks.zip ks')).2 hf, Bool.and_true]
        have hls : LoopsOK Try.prog hint (acall Try.prog hint (ovrOf (tab [(16, ltP (cSa d) gSa)]))) (ltab [(16, 58, LF 16 0 (oneF [.ptr 0 0, .ptr 1 0, .bool false, .int .i64 0] (saB N.tag n1 c1 z1 (u8s N.bytes) n2 c2 z2 ks M.tag n1' c1' z1' (u8s M.bytes) n2' c2' z2' ks') (.exit 0) [.ptr 0 0, .ptr 1 0, .bool false, .int .i64 (ks.length : Int)] (saB N.tag n1 c1 z1 (u8s N.bytes) n2 c2 z2 ks M.tag n1' c1' z1' (u8s M.bytes) n2' c2' z2' ks')))]) := by
          refine ltab_cons (by kernel_rfl) (loopF_ok fun vs bx e vs' bx' hm => ?_) ltab_nil
          obtain ⟨rfl, rfl, rfl, rfl, rfl⟩ := oneF_mem hm
          exact q
        refine ⟨noGd_of rfl, _, _, htab, hls, 30, _, Wk.refl _, (sa_yes (cSa d) gSa N.tag n1 c1 z1 (u8s N.bytes) n2 c2 z2 ks M.tag n1' c1' z1' (u8s M.bytes) n2' c2' z2' ks' ks.length).trans (bif_step b1 (bif_step b2 ?_))⟩
        rw [toBytes_u8s, toBytes_u8s, hne]
        cases ht : N.tag == M.tag
        · exact bif_step (by simp only [bne, ht]; rfl) rfl
        · cases hb : N.bytes == M.bytes
          · exact bif_step (by simp only [bne, ht]; rfl) rfl
          · exact bif_stepF (by simp only [bne, ht]; rfl) (bif_step sameS_t rfl)
      | some j =>
        rw [hf] at q
        have hall : ((ks.zip ks').all fun p => gSa p.1 p.2) = false := by
          cases ha : ((ks.zip ks').all fun p => gSa p.1 p.2)
          · rfl
          · rw [(all_find (fun p : IV × IV => gSa p.1 p.2) (ks.zip ks')).1 ha] at hf; cases hf
        rw [hall, Bool.and_false, Bool.and_false]
        have hls : LoopsOK Try.prog hint (acall Try.prog hint (ovrOf (tab [(16, ltP (cSa d) gSa)]))) (ltab [(16, 58, LF 16 0 (oneF [.ptr 0 0, .ptr 1 0, .bool false, .int .i64 0] (saB N.tag n1 c1 z1 (u8s N.bytes) n2 c2 z2 ks M.tag n1' c1' z1' (u8s M.bytes) n2' c2' z2' ks') .ret [.ptr 0 0, .ptr 1 0, .bool false, .int .i64 ((j + 0 : Nat) : Int)] (saB N.tag n1 c1 z1 (u8s N.bytes) n2 c2 z2 ks M.tag n1' c1' z1' (u8s M.bytes) n2' c2' z2' ks')))]) := by
          refine ltab_cons (by kernel_rfl) (loopF_ok fun vs bx e vs' bx' hm => ?_) ltab_nil
          obtain ⟨rfl, rfl, rfl, rfl, rfl⟩ := oneF_mem hm
          exact q
        refine ⟨noGd_of rfl, _, _, htab, hls, 30, _, Wk.refl _, (sa_no (cSa d) gSa N.tag n1 c1 z1 (u8s N.bytes) n2 c2 z2 ks M.tag n1' c1' z1' (u8s M.bytes) n2' c2' z2' ks' ((j + 0 : Nat) : Int)).trans (bif_step b1 (bif_step b2 ?_))⟩
        cases hcnd : (bif bif N.tag != M.tag then true else !toBytes (u8s N.bytes) == toBytes (u8s M.bytes) then true else (ks.length : Int) != (ks'.length : Int))
        · exact bif_stepF rfl (bif_step sameS_t rfl)
        · exact bif_step rfl rfl
    · have hsl : sames (ks.map ndOf) (ks'.map ndOf) = false := sames_len (by simpa using hlen)
      rw [hsl, Bool.and_false, Bool.and_false]
      have hne : ((ks.length : Int) != (ks'.length : Int)) = true := bne_iff_ne.2 (by omega)
      refine ⟨noGd_of rfl, _, _, htab, ltab_cons (by kernel_rfl) (fun p s e s' h => by cases h) ltab_nil, 30, _, Wk.refl _, (sa_else (cSa d) gSa N.tag n1 c1 z1 (u8s N.bytes) n2 c2 z2 ks M.tag n1' c1' z1' (u8s M.bytes) n2' c2' z2' ks').trans (bif_step b1 (bif_step b2 (bif_step ?_ rfl)))⟩
      rw [hne]
      cases (bif N.tag != M.tag then true else !toBytes (u8s N.bytes) == toBytes (u8s M.bytes)) <;> rfl
theorem same_known : Known Try.prog hint 16 (ltP (fun a b => cN a && cN b) gSa) := known_each fun xs T v T1 h => by
  unfold ltP at h
  split at h
  case h_2 => cases h
  rename_i t n1 c1 z1 bs n2 c2 z2 ks t' n1' c1' z1' bs' n2' c2' z2' ks'
  simp only [List.mem_cons, List.not_mem_nil, or_false, Prod.mk.injEq, Bool.true_eq, Bool.and_eq_true] at h
  obtain ⟨⟨h2, h3⟩, rfl, rfl⟩ := h
  refine ⟨_, sa_d (ndOf (ndV t n1 c1 z1 bs n2 c2 z2 ks)).dp, ?_⟩
  unfold ltP cSa
  simp only [cD_self h2, h3, Bool.and_self]
mutual
theorem same_refl : ∀ x : Nd, x.same x = true
  | .mk t b ks => by
    rw [same_mk, beq_self_eq_true, beq_self_eq_true]
    exact sames_refl ks
theorem sames_refl : ∀ ks : List Nd, sames ks ks = true
  | [] => rfl
  | k :: ks => by unfold sames; rw [same_refl k, sames_refl ks]; rfl
end

/-! ### The arguments -/
theorem und22 : Try.prog.underlying 22 = some (.slice 5) := by kernel_rfl
theorem und5 : Try.prog.underlying 5 = some (.int .u8) := by kernel_rfl
theorem und23 : Try.prog.underlying 23 = some (.slice 25) := by kernel_rfl
theorem und3 : Try.prog.underlying 3 = some (.int .i64) := by kernel_rfl
theorem cells5 : Try.prog.cellsOf 5 = 1 := by kernel_rfl
theorem bytes5 : Try.prog.bytesOf 5 = 1 := by kernel_rfl
theorem cells25 : Try.prog.cellsOf 25 = 3 := by kernel_rfl
theorem ty22 {n : Nat} {l : List IV} (h : Ty Try.prog n 22 l) : ∃ nl cl es, l = [.fsl (some nl) cl 1 es] ∧ okB es = true := by
  obtain ⟨m, nl, cl, es, rfl, rfl, _, e1, _, e3⟩ := ty_slice und22 h
  rw [cells5]
  refine ⟨nl, cl, es, rfl, ?_⟩
  unfold okB
  rw [List.all_eq_true]
  intro x hx
  obtain ⟨cs, hq, _, ht⟩ := e3 x hx
  obtain ⟨i, rfl, h1, h2⟩ := ty_int und5 ht
  have : x = .int .u8 i := by
    simp only [pack, isAggT, und5, Option.map_some] at hq
    exact (Option.some.inj hq).symm
  subst this
  obtain ⟨ra, rb⟩ := Go.Im.range_u8
  simp only [decide_eq_true_eq]
  omega
theorem ty25 : ∀ (n : Nat) {l : List IV}, Ty Try.prog n 25 l → ∃ t n1 c1 z1 bs n2 c2 z2 ks, l = [.int .i64 t, .fsl n1 c1 z1 bs, .fsl n2 c2 z2 ks] ∧ okNd (.agg l) = true
  | 0, l, h => by simp [Ty] at h
  | n + 1, l, h => by
    obtain ⟨m, hm, h⟩ := ty_struct Try.underlying25 h
    obtain rfl : n = m := by omega
    simp only [FieldsT] at h
    obtain ⟨c1, r1, rfl, h1, c2, r2, rfl, h2, c3, r3, rfl, h3, rfl⟩ := h
    obtain ⟨t, rfl, _⟩ := ty_int und3 h1
    obtain ⟨nl, cl, bs, rfl, o1⟩ := ty22 h2
    obtain ⟨m, nl', cl', es, hmm, rfl, _, e1, _, e3⟩ := ty_slice und23 h3
    rw [cells25]
    refine ⟨t, some nl, cl, 1, bs, some nl', cl', 3, es, rfl, ?_⟩
    show okNd (.agg [.int .i64 t, .fsl (some nl) cl 1 bs, .fsl (some nl') cl' 3 es]) = true
    unfold okNd
    rw [o1, decide_eq_true (.inl rfl), decide_eq_true (.inl rfl), okNds_all, Bool.true_and, Bool.true_and, Bool.true_and, List.all_eq_true]
    intro x hx
    obtain ⟨cs, hq, _, ht⟩ := e3 x hx
    have hlt : m ≤ n := by omega
    obtain ⟨t', m1, d1, y1, bs', m2, d2, y2, ks', hl', ho⟩ := ty25 m ht
    have : x = .agg cs := pack_struct Try.underlying25 hq (by rw [hl', cells25]; rfl)
    rw [this]
    exact ho
  termination_by n => n
def types : List TypeId := [3, 5, 9, 22, 23, 25, 39, 70]
/-! ### The law -/
abbrev cS2 (a b : IV) : Bool := cN a && cN b
end
end Go.Proofs.Ytolpgbgmldpneaa
