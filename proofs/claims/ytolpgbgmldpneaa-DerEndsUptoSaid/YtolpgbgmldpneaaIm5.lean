/- An ideal machine for the model's programs: its values are trees, its operations are told by plain functions; what it answers the model's machine does (part 5). It bears no condition. -/
import Derived.Test.YtolpgbgmldpneaaIm4
namespace Go.Im
open Go Go.RowKit Go.ChangeShapes
set_option linter.unusedVariables false
set_option linter.unusedSimpArgs false
set_option linter.unnecessarySimpa false
set_option linter.unusedSectionVars false

/-! ### How much arguments hold -/
mutual
def ivB : IV → Nat
  | .agg l => ivBs l
  | .fsl _ _ _ es => ivBs es + 1
  | .str s => s.length + 1
  | _ => 1
def ivBs : List IV → Nat
  | [] => 0
  | x :: xs => ivB x + ivBs xs
end
theorem ivBs_app : ∀ a b : List IV, ivBs (a ++ b) = ivBs a + ivBs b
  | [], b => (Nat.zero_add _).symm
  | x :: a, b => by
    show ivB x + ivBs (a ++ b) = ivB x + ivBs a + ivBs b
    rw [ivBs_app a b, Nat.add_assoc]
theorem ivB_pack {P : Program} {t : TypeId} {l : List IV} {x : IV} (h : pack P t l = some x) (hc : cellsOK l = true) : ivB x = ivBs l := by
  rcases pack_some h with ⟨_, _, rfl⟩ | ⟨_, rfl⟩
  · rfl
  · show ivB x = ivB x + 0
    rfl
/-- A count of what a reading holds. -/
structure Bulk {H : Type} (B : DataW H → Nat) (BA : List (DataW H) → Nat) : Prop where
  one : ∀ d, 1 ≤ B d
  str : ∀ s : List UInt8, s.length + 1 ≤ B (.lit (.string s))
  slice : ∀ a b, BA a + 1 ≤ B (.slice a b)
  agg : ∀ a, BA a ≤ B (.agg a)
  cons : ∀ d r, BA (d :: r) = B d + BA r
section
variable {H : Type} {enc : TypeId × Value → H} {P : Program} {w : World} {held : Bool} {ok : Nat → Prop} {sp : Nat → Bool} {B : DataW H → Nat} {BA : List (DataW H) → Nat}

/-- A struct's cells out of its fields'. -/
theorem fieldsB_of (hB : Bulk B BA) {n : Nat} {L : List TypeId} (cs : List Value)
    (ih : ∀ t (us : List Value) (d : DataW H) ps, t ∈ L → DataW.trod enc P w 0 sp held n t us = some (d, ps) → (d.weights P t).all (· ≤ reachBytes) = true →
      ∃ l x, RepCL ok w l us ∧ cellsOK l = true ∧ Ty P n t l ∧ pack P t l = some x ∧ ivBs l ≤ B d) :
    ∀ (fs : List Field) (xs : List (DataW H × List MemPlace)) (o e : Nat), layEnd P o fs = some e → e = cs.length → (∀ f ∈ fs, f.type ∈ L) → xs.length = fs.length →
      (∀ (i : Nat) (f : Field), fs[i]? = some f → DataW.trod enc P w 0 sp held n f.type ((cs.drop f.offset).take (P.cellsOf f.type)) = xs[i]?) →
      (DataW.weightsEach P (fs.map (·.type)) (xs.map (·.1))).all (· ≤ reachBytes) = true → o ≤ cs.length →
      ∃ l, RepCL ok w l (cs.drop o) ∧ cellsOK l = true ∧ FieldsT (Ty P n) fs l ∧ ivBs l ≤ BA (xs.map (·.1))
  | [], xs, o, e, h1, h2, _, _, _, _, _ => by
    simp only [layEnd, Option.some.injEq] at h1
    refine ⟨[], ?_, rfl, rfl, Nat.zero_le _⟩
    simp only [RepCL]
    rw [h1, h2, List.drop_length]
  | f :: fs, [], _, _, _, _, _, hl, _, _, _ => by simp at hl
  | f :: fs, x :: xs, o, e, h1, h2, hL, hl, hx, hw, ho => by
    simp only [layEnd] at h1
    split at h1
    · rename_i hb
      have hb := Nat.eq_of_beq_eq_true hb
      have h0 := hx 0 f rfl
      simp only [List.getElem?_cons_zero] at h0
      simp only [List.map_cons, DataW.weightsEach, List.all_append, Bool.and_eq_true] at hw
      obtain ⟨l, y, k1, k2, k3, k4, k5⟩ := ih f.type _ x.1 x.2 (hL f (List.mem_cons_self ..)) h0 hw.1
      have hn : o + P.cellsOf f.type ≤ cs.length := by
        rw [← h2]
        clear ih hx hw h0 k1 k2 k3 k4 hL hl h2 ho
        have : ∀ (fs : List Field) (a e : Nat), layEnd P a fs = some e → a ≤ e := by
          intro fs
          induction fs with
          | nil => intro a e h; simp only [layEnd, Option.some.injEq] at h; omega
          | cons f fs ih =>
            intro a e h
            simp only [layEnd] at h
            split at h
            · have := ih _ _ h; omega
            · cases h
        exact this _ _ _ h1
      obtain ⟨m, m1, m2, m3, m4⟩ := fieldsB_of hB cs ih fs xs _ e h1 h2 (fun g hg => hL g (List.mem_cons_of_mem _ hg)) (by simpa using hl) (fun i g hg => by
        have := hx (i + 1) g (by simpa using hg)
        simpa using this) hw.2 hn
      refine ⟨l ++ m, ?_, cellsOK_append k2 m2, ⟨l, m, rfl, k3, m3⟩, by rw [ivBs_app, List.map_cons, hB.cons]; omega⟩
      have : cs.drop o = (cs.drop f.offset).take (P.cellsOf f.type) ++ cs.drop (o + P.cellsOf f.type) := by
        rw [hb, ← List.drop_drop, List.take_append_drop]
      rw [this]
      exact repCL_append k1 m1
    · cases h1

theorem arrB_of (hB : Bulk B BA) {n e : Nat} (cs : List Value)
    (ih : ∀ (us : List Value) (d : DataW H) ps, DataW.trod enc P w 0 sp held n e us = some (d, ps) → (d.weights P e).all (· ≤ reachBytes) = true →
      ∃ l x, RepCL ok w l us ∧ cellsOK l = true ∧ Ty P n e l ∧ pack P e l = some x ∧ ivBs l ≤ B d) :
    ∀ (m j : Nat) (xs : List (DataW H × List MemPlace)), (j + m) * P.cellsOf e = cs.length → xs.length = m →
      (∀ (i : Nat), i < m → DataW.trod enc P w 0 sp held n e ((cs.drop ((j + i) * P.cellsOf e)).take (P.cellsOf e)) = xs[i]?) →
      (DataW.weightsAll P e (xs.map (·.1))).all (· ≤ reachBytes) = true →
      ∃ l, RepCL ok w l (cs.drop (j * P.cellsOf e)) ∧ cellsOK l = true ∧ ArrT (Ty P n e) m l ∧ ivBs l ≤ BA (xs.map (·.1))
  | 0, j, xs, h1, _, _, _ => by
    refine ⟨[], ?_, rfl, rfl, Nat.zero_le _⟩
    simp only [RepCL]
    rw [show j * P.cellsOf e = cs.length from h1, List.drop_length]
  | m + 1, j, [], _, hl, _, _ => by simp at hl
  | m + 1, j, x :: xs, h1, hl, hx, hw => by
    have h0 := hx 0 (by omega)
    simp only [List.getElem?_cons_zero] at h0
    simp only [List.map_cons, DataW.weightsAll, List.all_append, Bool.and_eq_true] at hw
    obtain ⟨l, y, k1, k2, k3, k4, k5⟩ := ih _ x.1 x.2 h0 hw.1
    obtain ⟨q, m1, m2, m3, m4⟩ := arrB_of hB cs ih m (j + 1) xs (by rw [← h1]; congr 1; omega) (by simpa using hl) (fun i hi => by
      have := hx (i + 1) (by omega)
      rw [show j + 1 + i = j + (i + 1) by omega]
      simpa using this) hw.2
    refine ⟨l ++ q, ?_, cellsOK_append k2 m2, ⟨l, q, rfl, k3, m3⟩, by rw [ivBs_app, List.map_cons, hB.cons]; omega⟩
    have : cs.drop (j * P.cellsOf e) = (cs.drop ((j + 0) * P.cellsOf e)).take (P.cellsOf e) ++ cs.drop ((j + 1) * P.cellsOf e) := by
      rw [Nat.add_zero, Nat.add_mul, Nat.one_mul, ← List.drop_drop, List.take_append_drop]
    rw [this]
    exact repCL_append k1 m1

/-- WHAT IS READ, AS THE IDEAL MACHINE HAS IT. -/
theorem tyB_of_trod (hB : Bulk B BA) {L : List TypeId} (hL : typesOK P L = true) (hok : ∀ g, g < w.heap.size → ok g) : ∀ (n : Nat) t (cs : List Value) (d : DataW H) ps, t ∈ L → DataW.trod enc P w 0 (fun _ => true) held n t cs = some (d, ps) →
    (d.weights P t).all (· ≤ reachBytes) = true → ∃ l x, RepCL ok w l cs ∧ cellsOK l = true ∧ Ty P n t l ∧ pack P t l = some x ∧ ivBs l ≤ B d
  | 0, t, cs, d, ps, _, h, _ => by simp [DataW.trod] at h
  | n + 1, t, cs, d, ps, ht, h, hw => by
    have ih := tyB_of_trod hB hL hok n
    have one : ∀ (y : IV) (v : Value), leaf y = true → RepC ok w y v → RepCL ok w [y] [v] ∧ cellsOK [y] = true := by
      intro y v h1 h2
      refine ⟨by simp only [RepCL]; exact ⟨v, [], rfl, h2, rfl⟩, by simp [cellsOK, h1]⟩
    have hT := List.all_eq_true.1 hL t ht
    split at hT
    · rename_i hu
      obtain ⟨b, rfl, e⟩ := DataW.trod_bool hu h
      cases e
      obtain ⟨k1, k2⟩ := one (.bool b) (.bool b) rfl (by simp [RepC])
      refine ⟨_, _, k1, k2, ?_, pack_leaf (by simp [isAggT, hu]), hB.one _⟩
      unfold Ty; rw [hu]; exact ⟨b, rfl⟩
    · rename_i k hu
      obtain ⟨i, rfl, e, hwf⟩ := DataW.trod_int hu h
      cases e
      obtain ⟨k1, k2⟩ := one (.int k i) (.int k i) rfl (by simp [RepC])
      refine ⟨_, _, k1, k2, ?_, pack_leaf (by simp [isAggT, hu]), hB.one _⟩
      unfold Ty; rw [hu]; exact ⟨i, rfl, hwf⟩
    · rename_i hu
      obtain ⟨s, rfl, e, hs⟩ := DataW.trod_string hu h
      cases e
      obtain ⟨k1, k2⟩ := one (.str s.data.toList) (.string s) rfl (by simp [RepC])
      refine ⟨_, _, k1, k2, ?_, pack_leaf (by simp [isAggT, hu]), hB.str _⟩
      unfold Ty; rw [hu]
      refine ⟨_, rfl, ?_⟩
      simpa [DataW.weights] using hw
    · rename_i e hu
      simp only [Bool.and_eq_true, List.contains_iff_mem] at hT
      obtain ⟨he, hz⟩ := hT
      have hz : 0 < P.cellsOf e := by simpa [Nat.blt_eq] using hz
      rcases DataW.trod_slice hu h with ⟨rfl, hx⟩ | ⟨a, len, cap, elems, rest, m, hm, rfl, hx, hb, hlc, hcm, hlen, hel, hre, _⟩
      · cases hx
        obtain ⟨k1, k2⟩ := one (.fsl (some true) true (P.cellsOf e) []) (.slice none 0 0) rfl (by simp [RepC]; exact ⟨none, 0, ⟨rfl, rfl⟩, rfl, rfl⟩)
        refine ⟨_, _, k1, k2, ?_, pack_leaf (by simp [isAggT, hu]), hB.one _⟩
        unfold Ty; rw [hu]
        refine ⟨true, true, [], rfl, fun _ => ⟨rfl, rfl⟩, ?_, ?_, fun x hx => by cases hx⟩
        · simp
        · simp
      · obtain rfl : n = m := by omega
        simp only [Prod.mk.injEq] at hx
        obtain ⟨rfl, _⟩ := hx
        have hw0 := hw
        simp only [DataW.weights, hu, List.all_cons, List.all_append, Bool.and_eq_true, decide_eq_true_eq, List.length_map] at hw
        obtain ⟨hw1, hw2, _⟩ := hw
        obtain ⟨hr1, hr2⟩ := hre rfl
        have hsp : 0 < len → a.spot = none ∧ a.block < w.heap.size := by
          intro h0l
          have h0 := hel 0 h0l
          cases hy : elems[0]? with
          | none => rw [List.getElem?_eq_none_iff] at hy; omega
          | some y =>
            rw [hy] at h0
            obtain ⟨vs, h1, h2⟩ := Option.bind_eq_some_iff.1 h0
            simp only [World.cells?, Nat.zero_le, if_true] at h1
            have := mapM_some_get h1 0 0 (by simp [hz])
            have hvl := mapM_some_length h1
            simp only [List.length_range] at hvl
            rw [List.getElem?_eq_getElem (by omega)] at this
            simp only [Nat.zero_mul, Addr.add, if_true] at this
            refine ⟨World.cell?_spot this, ?_⟩
            simp only [World.cell?] at this
            split at this
            · rename_i h9
              exact (Array.getElem?_eq_some_iff.1 h9).1
            · cases this
        have hes : ∀ j, j ≤ len → ∃ es : List IV, es.length = j ∧ ivBs es ≤ BA ((elems.drop (len - j)).map (·.1)) ∧ (∀ x ∈ es, ∃ cs, pack P e cs = some x ∧ cellsOK cs = true ∧ Ty P n e cs) ∧
            (j = 0 ∨ (a.spot = none ∧ ok a.block ∧ RepEs ok w (P.cellsOf e) a.block (a.off + (len - j) * P.cellsOf e) es)) := by
          intro j
          induction j with
          | zero => intro _; exact ⟨[], rfl, Nat.zero_le _, fun x hx => (by cases hx), .inl rfl⟩
          | succ j ihj =>
            intro hj
            obtain ⟨es, q1, qb, q2, q3⟩ := ihj (by omega)
            have hlt : len - (j + 1) < len := by omega
            have h0 := hel _ hlt
            cases hy : elems[len - (j + 1)]? with
            | none => rw [List.getElem?_eq_none_iff] at hy; omega
            | some y =>
              rw [hy] at h0
              obtain ⟨vs, h1, h2⟩ := Option.bind_eq_some_iff.1 h0
              obtain ⟨l, x, k1, k2, k3, k4, k5⟩ := ih e vs y.1 y.2 he h2 (weights_all _ hw2 (len - (j + 1)) y.1 (by rw [List.getElem?_map, hy]; rfl))
              have hvl : vs.length = P.cellsOf e := by
                simp only [World.cells?, Nat.zero_le, if_true] at h1
                rw [mapM_some_length h1]; simp
              have hcell : ∀ i v, vs[i]? = some v → w.cell? ((a.add ((len - (j + 1)) * P.cellsOf e)).add i) = some v := by
                intro i v hi
                simp only [World.cells?, Nat.zero_le, if_true] at h1
                have hil : i < P.cellsOf e := by rw [← hvl]; exact (List.getElem?_eq_some_iff.1 hi).1
                have := mapM_some_get h1 i i (by simp [hil])
                rw [hi] at this
                exact this
              obtain ⟨v0, hv0⟩ : ∃ v0, vs[0]? = some v0 := ⟨_, List.getElem?_eq_getElem (by omega)⟩
              have hc0 := hcell 0 v0 hv0
              obtain ⟨hspot, hblk⟩ := hsp (by omega)
              refine ⟨x :: es, by simp [q1], ?_, ?_, .inr ⟨hspot, hok _ hblk, ?_⟩⟩
              · have hdr : elems.drop (len - (j + 1)) = y :: elems.drop (len - j) := by
                  obtain ⟨h7, h8⟩ := List.getElem?_eq_some_iff.1 hy
                  rw [List.drop_eq_getElem_cons h7, h8]
                  congr 2
                  omega
                rw [hdr, List.map_cons, hB.cons]
                have := ivB_pack k4 k2
                show ivB x + ivBs es ≤ _
                omega
              · intro z hz
                rcases List.mem_cons.1 hz with rfl | hz
                · exact ⟨l, k4, k2, k3⟩
                · exact q2 z hz
              · rw [RepEs_cons]
                obtain ⟨ab, ao, as⟩ := a
                simp only at hspot
                subst hspot
                have hcells := pack_cells' k4 k2
                refine ⟨⟨by rw [hcells, ← repCL_len _ _ k1, hvl], ?_⟩, ?_⟩
                · rw [hcells]
                  refine repCs_of l vs _ k2 k1 fun i v hi => ?_
                  have := hcell i v hi
                  rw [add_lit', add_lit'] at this
                  exact this
                · rcases q3 with rfl | ⟨_, _, q3⟩
                  · have : es = [] := List.eq_nil_of_length_eq_zero q1
                    subst this
                    simp only [RepEs]
                  · have e0 : len - j = (len - (j + 1)) + 1 := len_sub hj
                    rw [e0, Nat.add_mul, Nat.one_mul, ← Nat.add_assoc] at q3
                    exact q3
        obtain ⟨es, q1, qb, q2, q3⟩ := hes len (Nat.le_refl _)
        rw [Nat.sub_self, List.drop_zero] at qb
        obtain ⟨k1, k2⟩ := one (.fsl (some false) rest.isEmpty (P.cellsOf e) es) (.slice (some a) len cap) rfl (by
          simp only [RepC]
          refine ⟨some a, cap, by rw [q1], by omega, fun hcl => ?_, (fun h => by cases h), (fun _ h => by cases h), ?_⟩
          · have : rest = [] := by simpa using hcl
            subst this
            simp at hr1
            omega
          · rcases q3 with rfl | ⟨q3, q4, q5⟩
            · exact .inl (List.eq_nil_of_length_eq_zero q1)
            · refine .inr ⟨a.block, a.off, ?_, q4, ?_⟩
              · obtain ⟨ab, ao, as⟩ := a
                simp only at q3
                subst q3
                rfl
              · simpa using q5)
        refine ⟨_, _, k1, k2, ?_, pack_leaf (by simp [isAggT, hu]), Nat.le_trans (Nat.succ_le_succ qb) (hB.slice _ _)⟩
        unfold Ty; rw [hu]
        refine ⟨false, rest.isEmpty, es, rfl, (fun h => by cases h), ?_, by omega, q2⟩
        have : es.length ≤ elems.length + rest.length := by omega
        exact Nat.le_trans (Nat.mul_le_mul_right _ this) hw1
    · rename_i fs hu
      simp only [Bool.and_eq_true, List.all_eq_true, List.contains_iff_mem] at hT
      obtain ⟨hT1, hT2⟩ := hT
      obtain ⟨xs, m, hm, hx, hcl, hxl, hxs⟩ := DataW.trod_struct hu h
      obtain rfl : n = m := by omega
      simp only [Prod.mk.injEq] at hx
      obtain ⟨rfl, _⟩ := hx
      simp only [DataW.weights, hu] at hw
      split at hT2
      · rename_i en hen
        have hen2 := Nat.eq_of_beq_eq_true hT2
        obtain ⟨l, k1, k2, k3, k4⟩ := fieldsB_of (ok := ok) hB cs ih fs.toList xs 0 en hen (by rw [hen2, hcl]) hT1 (by simpa using hxl) (fun i f hf => hxs i f (by simpa using hf)) hw (Nat.zero_le _)
        rw [List.drop_zero] at k1
        refine ⟨l, .agg l, k1, k2, ?_, pack_agg' (by simp [isAggT, hu]) ?_, Nat.le_trans k4 (hB.agg _)⟩
        · unfold Ty; rw [hu]; exact k3
        · rw [← repCL_len _ _ k1, hcl]
      · cases hT2
    · rename_i m e hu
      simp only [Bool.and_eq_true, List.contains_iff_mem] at hT
      obtain ⟨he, hz⟩ := hT
      have hz := Nat.eq_of_beq_eq_true hz
      obtain ⟨xs, q, hm, hx, hcl, hxl, hxs⟩ := DataW.trod_array hu h
      obtain rfl : n = q := by omega
      simp only [Prod.mk.injEq] at hx
      obtain ⟨rfl, _⟩ := hx
      simp only [DataW.weights, hu] at hw
      obtain ⟨l, k1, k2, k3, k4⟩ := arrB_of (ok := ok) hB cs (fun us d ps h hw => ih e us d ps he h hw) m 0 xs (by rw [Nat.zero_add, hz, hcl]) hxl (fun i hi => by rw [Nat.zero_add]; exact hxs i hi) hw
      rw [Nat.zero_mul, List.drop_zero] at k1
      refine ⟨l, .agg l, k1, k2, ?_, pack_agg' (by simp [isAggT, hu]) ?_, Nat.le_trans k4 (hB.agg _)⟩
      · unfold Ty; rw [hu]; exact k3
      · rw [← repCL_len _ _ k1, hcl]
    · cases hT

/-- A value of a type, out of its cells. -/
theorem repLB_of_args (hB : Bulk B BA) {L : List TypeId} (hL : typesOK P L = true) {Γ : Cx} (hok : ∀ g, g < w.heap.size → Γ.ok g) {base : Nat} :
    ∀ (ts : List TypeId) (vs : List Value) (ds : List (DataW H)) (ps : List MemPlace), (∀ t ∈ ts, t ∈ L) →
      (∀ (j : Nat) t v, ts[j]? = some t → vs[j]? = some v → Value.okWide P w .any base t v) →
      DataW.TrodAll enc P w 0 (fun _ => true) true ts vs ds ps → (DataW.weightsEach P ts ds).all (· ≤ reachBytes) = true →
      ∃ as : List IV, RepL Γ w as vs ∧ NoGd as ∧ as.length = ts.length ∧ ∀ (i : Nat) t, ts[i]? = some t → ∃ n l x d, Ty P n t l ∧ pack P t l = some x ∧ cellsOK l = true ∧ as[i]? = some x ∧ ds[i]? = some d ∧ ivB x ≤ B d
  | [], [], [], _, _, _, _, _ => ⟨[], by simp [RepL], by intro t j w c x h; simp at h, rfl, fun i t h => by simp at h⟩
  | [], [], _ :: _, _, _, _, h, _ => by simp [DataW.TrodAll] at h
  | [], _ :: _, _, _, _, _, h, _ => by simp [DataW.TrodAll] at h
  | _ :: _, [], _, _, _, _, h, _ => by simp [DataW.TrodAll] at h
  | _ :: _, _ :: _, [], _, _, _, h, _ => by simp [DataW.TrodAll] at h
  | t :: ts, v :: vs, d :: ds, ps, hm, ho, h, hw => by
    simp only [DataW.TrodAll] at h
    obtain ⟨p, q, ⟨n, h1⟩, h2, rfl⟩ := h
    simp only [DataW.weightsEach, List.all_append, Bool.and_eq_true] at hw
    obtain ⟨l, x, k1, k2, k3, k4, k5⟩ := tyB_of_trod (ok := Γ.ok) hB hL hok n t _ d p (hm t (List.mem_cons_self ..)) h1 hw.1
    obtain ⟨as, m1, m2, m3, m4⟩ := repLB_of_args hB hL hok ts vs ds q (fun u hu => hm u (List.mem_cons_of_mem _ hu)) (fun j u z hu hz => ho (j + 1) u z (by simpa using hu) (by simpa using hz)) h2 hw.2
    have hv := ho 0 t v rfl rfl
    have hx : Rep Γ w x v ∧ (∀ j w c y, x ≠ .gd j w c y) := by
      rcases pack_some k4 with ⟨hA, hl, rfl⟩ | ⟨hA, rfl⟩
      · refine ⟨?_, fun j w c y h => by cases h⟩
        have : ∃ cs, v = .agg cs := by
          simp only [isAggT, Option.map_eq_some_iff] at hA
          obtain ⟨u, hu, hA⟩ := hA
          simp only [Value.okWide, hu] at hv
          split at hv
          · obtain ⟨cs, rfl, _⟩ := hv; exact ⟨cs, rfl⟩
          · obtain ⟨cs, rfl, _⟩ := hv; exact ⟨cs, rfl⟩
          · rename_i h9 h10
            split at hA
            · exact absurd rfl (h9 _)
            · exact absurd rfl (h10 _ _)
            · cases hA
        obtain ⟨⟨cs⟩, rfl⟩ := this
        have := repC_rep (Γ := Γ) (w := w) (.agg l) (.agg ⟨cs⟩) (by simp only [RepC]; exact ⟨cs, rfl, k1⟩)
        exact this
      · simp only [RepCL] at k1
        obtain ⟨u, us, e1, h3, h4⟩ := k1
        subst h4
        simp only [cellsOK, List.all_cons, List.all_nil, Bool.and_true] at k2
        refine ⟨?_, fun j w c y h => by subst h; simp [leaf] at k2⟩
        have hvu : v = u := by
          have hna : ∀ cs, v ≠ .agg cs := by
            intro cs e
            subst e
            simp only [isAggT, Option.map_eq_some_iff] at hA
            obtain ⟨ud, hu, hA⟩ := hA
            simp only [Value.okWide, hu] at hv
            cases ud <;> simp_all [Cell.okWide, Cell.ok]
          cases v with
          | agg cs => exact absurd rfl (hna cs)
          | _ => simpa [Value.cells] using e1
        subst hvu
        exact repC_rep _ _ h3
    have hbx := Nat.le_trans (Nat.le_of_eq (ivB_pack k4 k2)) k5
    refine ⟨x :: as, by simp only [RepL]; exact ⟨v, vs, rfl, hx.1, m1⟩, ?_, by simp [m3], ?_⟩
    · intro i j w c y hy
      cases i with
      | zero => simp at hy; exact hx.2 j w c y hy
      | succ i => exact m2 i j w c y (by simpa using hy)
    · intro i u hu
      cases i with
      | zero => simp at hu; subst hu; exact ⟨n, l, x, d, k3, k4, k2, rfl, rfl, hbx⟩
      | succ i => simpa using m4 i u (by simpa using hu)
end

theorem bulk_mem {H' : Type} {B : DataW H' → Nat} {BA : List (DataW H') → Nat} (hB : Bulk B BA) : ∀ {l : List (DataW H')} {d : DataW H'}, d ∈ l → B d ≤ BA l
  | x :: r, d, h => by
    rw [hB.cons]
    rcases List.mem_cons.1 h with rfl | h
    · exact Nat.le_add_right _ _
    · exact Nat.le_trans (bulk_mem hB h) (Nat.le_add_left _ _)
section
variable {P : Program} {H : Hint}
/-- A LAW'S CALL, out of what the ideal machine answers. -/
theorem lawB_contract {H' : Type} {B : DataW H' → Nat} {BA : List (DataW H') → Nat} (hB : Bulk B BA) {M : Nat} {enc : TypeId × Value → H'} {f : FuncId} {fn : Func} {s : ChangeSpec} {L : List TypeId} {tb : TypeId} {apart fresh handsOn again : Bool}
    (hm : P.follows .mixedOrders = true) (hszF : P.funcs.size ≤ YID) (hng : ∀ (f : FuncId) (fn : Func), P.funcs[f]? = some fn → fn.body.isSome = true → fn.name ≠ "runtime.NumGoroutine")
    {ovr : FuncId → Option CallF} (hovr : OvrOK P H ovr) (hL : typesOK P L = true)
    (hpl : (fn.params.toList.all fun t => L.contains t && P.readableRec t && Nat.blt t P.types.size) = true) (hlo : laidOutB P = true)
    (hvars : s.vars = []) (hs : ∀ (ds : List (DataW H')), ds.length = fn.params.size → s.fn H' ds = { results := [.lit (.bool true)], args := ds })
    (hres : fn.resultTypes = #[tb]) (hb : P.underlying tb = some .bool)
    (hrun : ∀ as : List IV, as.length = fn.params.size → (∀ (i : Nat) t, fn.params[i]? = some t → ∃ x, as[i]? = some x ∧ ArgT P t x ∧ ivB x ≤ M) → ∃ k, acall P H ovr k f as [] = some (.bool true, []))
    {W : World} {base : Nat} {args : Array Value} {ds gs : List (DataW H')} {before : List MemPlace}
    (hval : ∀ (j : Nat) t v, fn.params[j]? = some t → args[j]? = some v → Value.okWide P W .any base t v)
    (hW : DataW.Whole enc P fn.params.toList s.vars apart W args.toList ds gs before)
    (hM : BA (ds ++ gs) ≤ M)
    (hsz : (DataW.weightsEach P (fn.params.toList ++ s.plain.varTypes P) (ds ++ gs)).all (· ≤ reachBytes) = true)
    (hgl : ∀ g x, H.gl g = some x → RepC (fun g => g < W.heap.size) W x (.pointer (some ⟨g, 0, none⟩))) :
    Calls P f args W fun e W' => ∃ v, e = .returned v ∧ s.post enc P fn apart fresh handsOn again W args v W' := by
  have hW' := hW
  obtain ⟨p, q, hA, hV, rfl, hfz, hnd⟩ := hW
  have hq : gs = [] ∧ q = [] := by
    rw [hvars] at hV
    cases gs with
    | nil => exact ⟨rfl, hV⟩
    | cons => simp [DataW.TrodVars] at hV
  obtain ⟨rfl, rfl⟩ := hq
  have hlen := trodAll_len _ _ _ _ hA
  simp only [List.append_nil, ] at hsz hW'
  have hpl' : ∀ t ∈ fn.params.toList, t ∈ L ∧ P.readableRec t = true ∧ t < P.types.size := by
    intro t ht
    have := List.all_eq_true.1 hpl t ht
    simp only [Bool.and_eq_true, List.contains_iff_mem, Nat.blt_eq] at this
    exact ⟨this.1.1, this.1.2, this.2⟩
  have hw : (DataW.weightsEach P fn.params.toList ds).all (· ≤ reachBytes) = true := by
    have he : s.plain.varTypes P = [] := by simp [DataSpec.varTypes, ChangeSpec.plain, hvars]
    rw [he, List.append_nil] at hsz
    exact hsz
  obtain ⟨as, m1, m2, m3, m4⟩ := repLB_of_args (Γ := cx0 W) hB hL (fun g hg => hg) fn.params.toList args.toList ds p (fun t ht => (hpl' t ht).1) (fun j t v h1 h2 => hval j t v (by simpa using h1) (by simpa using h2)) hA hw
  obtain ⟨k, hk⟩ := hrun as (by simpa using m3) (fun i t ht => by
    obtain ⟨n, l, x, d, k1, k2, k3, k4, k5, k6⟩ := m4 i t (by simpa using ht)
    exact ⟨x, k4, ⟨n, l, k1, k2, k3⟩, Nat.le_trans k6 (Nat.le_trans (bulk_mem hB (List.mem_of_getElem? k5)) (by simpa using hM))⟩)
  refine (law_calls hm hszF hng hovr hk hgl m1 m2).mono ?_
  rintro e W' ⟨rfl, bel⟩
  have hold : ∀ x ∈ p, decide (x.block < W.heap.size) = true := fun x hx => by simpa using hW'.lt x hx
  have hargs : ∀ sp : Nat → Bool, (∀ x ∈ p, sp x.block = true) → DataW.TrodAll enc P W' 0 sp true fn.params.toList args.toList ds p :=
    fun sp hsp => trodAll_stays hlo _ _ _ _ (fun t ht => (hpl' t ht).2) hA (fun x hx => bel.same (hW'.lt x hx)) hsp
  have hr : ∀ (b : Nat) (sp : Nat → Bool) (hd : Bool), DataW.TrodAll enc P W' b sp hd fn.resultTypes.toList ((Value.bool true).resultList fn.resultTypes.size) [.lit (.bool true)] [] := by
    intro b sp hd
    rw [hres]
    exact ⟨[], [], ⟨1, by simp [DataW.trod, hb, Value.cells]⟩, rfl, rfl⟩
  have hv : ∀ (sp : Nat → Bool), DataW.TrodVars enc P W' sp s.vars [] [] := by
    intro sp
    rw [hvars]
    rfl
  have hsf : s.fn H' (ds ++ []) = { results := [.lit (.bool true)], args := ds } := by rw [List.append_nil]; exact hs ds (by simpa using hlen)
  refine ⟨_, rfl, ds, [], p, [], p, [], hW', ?_, ?_, ?_, bel.frame _, fun _ => ?_⟩
  · rw [hsf]; exact hr _ _ _
  · rw [hsf]; exact hargs _ hold
  · rw [hsf]; exact hv _
  · have hn : apart = true → p.Nodup := by simpa using hnd
    refine ⟨ok_one hres rfl (okWide_bool_mk hb _), DataW.lit (.bool true) :: ds, [], ([] ++ p) ++ [], ⟨[] ++ p, [], ?_, ?_, rfl, ?_, ?_⟩, ?_⟩
    · exact trodAll_append (hargs _ (fun _ _ => rfl)) (hr _ _ _)
    · exact hv _
    · intro b off hp
      rw [bel.frozen (hW'.lt (.cell b off) (by simpa using hp))]
      exact hfz b off (by simpa using hp)
    · intro ha
      simpa using hn ha
    · intro x hx _
      simpa using hx
end
end Go.Im
