/- Go's own sort, as the ideal machine's contract. It bears no condition. -/
import Derived.Test.YtfcedalbamafiaaChT
namespace Go.Proofs.Ytfcedalbamafiaa
open Go Go.Im Go.Sort
set_option linter.unusedVariables false
set_option linter.unusedSimpArgs false
noncomputable section

def ivE (x : Int × Int) : IV := .agg [.int .i64 x.1, .int .i64 x.2]
def endOf (x : IV) : Int × Int := (Go.Im.intOf (nthD x.cells 0), Go.Im.intOf (nthD x.cells 1))
def isEnd (x : IV) : Bool := match x with | .agg [.int .i64 _, .int .i64 _] => true | _ => false
theorem isEnd_eq {x : IV} (h : isEnd x = true) : x = ivE (endOf x) := by
  unfold isEnd at h
  split at h
  · rfl
  · cases h
def sortL (l : List IV) : List IV := (sortE (l.map endOf)).map ivE
theorem sortE_len (l : List (Int × Int)) : (sortE l).length = l.length := List.length_mergeSort ..
theorem sortL_len (l : List IV) : (sortL l).length = l.length := by simp [sortL, sortE_len]
def sortP : SpecF := fun xs T => match xs with
  | [.osl b ver, .fn g []] => (match own? T b ver with
    | some (e, l) => [(Nat.beq g 26 && Nat.beq e 2 && decide (l.length ≤ 1000) && l.all isEnd, .tup [], T.set b (.row ver false e (sortL l)))]
    | none => [])
  | _ => []
theorem cells_of {ok : Nat → Prop} {w : World} {g : Nat} : ∀ (ds : List (Int × Int)) (o : Nat), RepEs ok w 2 g o (ds.map ivE) → ∀ i (h : i < ds.length), w.cell? ⟨g, o + 2 * i, none⟩ = some (.int .i64 ds[i].1) ∧ w.cell? ⟨g, o + 2 * i + 1, none⟩ = some (.int .i64 ds[i].2)
  | [], _, _, i, h => by simp at h
  | x :: ds, o, hr, i, h => by
    rw [List.map_cons, RepEs_cons] at hr
    obtain ⟨⟨_, h1⟩, h2⟩ := hr
    cases i with
    | zero =>
      simp only [ivE, IV.cells, RepCs, RepC, and_true] at h1
      obtain ⟨⟨_, v, e1, rfl⟩, _, u, e2, rfl⟩ := h1
      exact ⟨e1, e2⟩
    | succ i =>
      have ih := cells_of ds (o + 2) h2 i (by simpa using h)
      rw [show o + 2 * (i + 1) = o + 2 + 2 * i by omega]
      exact ih
theorem of_cells {ok : Nat → Prop} {w : World} {g : Nat} : ∀ (ds : List (Int × Int)) (o : Nat), (∀ i (h : i < ds.length), w.cell? ⟨g, o + 2 * i, none⟩ = some (.int .i64 ds[i].1) ∧ w.cell? ⟨g, o + 2 * i + 1, none⟩ = some (.int .i64 ds[i].2)) → RepEs ok w 2 g o (ds.map ivE)
  | [], _, _ => by simp [RepEs]
  | x :: ds, o, h => by
    rw [List.map_cons, RepEs_cons]
    obtain ⟨e1, e2⟩ := h 0 (by simp)
    refine ⟨⟨rfl, ?_⟩, of_cells ds (o + 2) fun i hi => ?_⟩
    · simp only [ivE, IV.cells, RepCs, RepC, and_true]
      exact ⟨⟨rfl, _, e1, rfl⟩, rfl, _, e2, rfl⟩
    · have := h (i + 1) (by simp; omega)
      rw [show o + 2 * (i + 1) = o + 2 + 2 * i by omega] at this
      exact this
theorem flat_get (d : Array (Int × Int)) {i : Nat} (hi : i < d.size) : (flatK encE 2 d)[2 * i]! = .int .i64 d[i].1 ∧ (flatK encE 2 d)[2 * i + 1]! = .int .i64 d[i].2 := by
  rw [get_flatK _ _ _ _ (by omega), get_flatK _ _ _ _ (by omega)]
  have e1 : 2 * i / 2 = i := by omega
  have e2 : 2 * i % 2 = 0 := by omega
  have e3 : (2 * i + 1) / 2 = i := by omega
  have e4 : (2 * i + 1) % 2 = 1 := by omega
  rw [e1, e2, e3, e4, getElem!_pos d i hi]
  exact ⟨rfl, rfl⟩
theorem holds_of {w : World} {g : Nat} {arr : Array Value} {ty : TypeId} (hh : w.heap[g]? = some (.cells arr ty (0, 0))) (ds : List (Int × Int))
    (h : ∀ i (h : i < ds.length), w.cell? ⟨g, 0 + 2 * i, none⟩ = some (.int .i64 ds[i].1) ∧ w.cell? ⟨g, 0 + 2 * i + 1, none⟩ = some (.int .i64 ds[i].2)) : HoldsK encE 2 w g 0 ds.toArray := by
  intro j hj
  rw [size_flatK] at hj
  refine ⟨?_, by simp [World.frozen?, hh]⟩
  have hsz : ds.toArray.size = ds.length := by simp
  obtain ⟨i, hi⟩ : ∃ i, j = 2 * i ∨ j = 2 * i + 1 := ⟨j / 2, by omega⟩
  have hil : i < ds.length := by omega
  have hf := flat_get ds.toArray (i := i) (by omega)
  have hc := h i hil
  rcases hi with rfl | rfl
  · rw [id, hf.1, hc.1]; simp
  · rw [id, hf.2]
    rw [← Nat.add_assoc, hc.2]; simp
theorem known25 (h : ∀ (b ver e : Nat) (l : List IV) (T : List Blk) (Γ : Cx) (w : World) (vs : List Value), e = 2 → l.length ≤ 1000 → l.all isEnd = true → T[b]? = some (.row ver false 2 l) → Inv Γ w → Γ.T = T → RepL Γ w [.osl b ver, .fn 26 []] vs →
    Calls Try.prog 25 vs.toArray w fun e' w' => ∃ v Γ', e' = .returned v ∧ Γ'.T = T.set b (.row ver false 2 (sortL l)) ∧ Fr T.length Γ w Γ' w' ∧ Rep Γ' w' (.tup []) v) : Known Try.prog hint 25 sortP := by
  intro f xs T r T1 hr
  simp only at hr
  split at hr
  case isFalse => cases hr
  rename_i hf
  subst hf
  refine ⟨⟨_, Try.func25, by decide, rfl⟩, ?_⟩
  intro Γ w vs hi hT hgl hrep hng
  obtain ⟨⟨t, v, T2⟩, hF, e⟩ := Option.map_eq_some_iff.1 hr
  cases e
  have ht := List.find?_some hF
  have hm := List.mem_of_find?_eq_some hF
  simp only at ht
  subst ht
  unfold sortP at hm
  split at hm
  · rename_i b ver g
    split at hm
    · rename_i e l how
      simp only [List.mem_cons, List.not_mem_nil, or_false, Prod.mk.injEq, Bool.true_eq, Bool.and_eq_true, decide_eq_true_eq] at hm
      obtain ⟨⟨⟨⟨h1, h2⟩, h3⟩, h4⟩, rfl, rfl⟩ := hm
      obtain rfl := Nat.eq_of_beq_eq_true h1
      obtain rfl := Nat.eq_of_beq_eq_true h2
      exact h b ver 2 l T Γ w vs rfl h3 h4 (own_row how) hi hT hrep
    · cases hm
  · cases hm
theorem map_ends : ∀ {l : List IV}, l.all isEnd = true → l = (l.map endOf).map ivE
  | [], _ => rfl
  | x :: l, h => by
    simp only [List.all_cons, Bool.and_eq_true] at h
    rw [List.map_cons, List.map_cons, ← isEnd_eq h.1, ← map_ends h.2]
theorem sort_known : Known Try.prog hint 25 sortP := by
  refine known25 fun b ver e l T Γ w vs _ hlen hends hb hi hT hrep => ?_
  subst hT
  simp only [RepL] at hrep
  obtain ⟨v1, us, rfl, hv1, v2, us', rfl, hv2, rfl⟩ := hrep
  simp only [Rep, RefO] at hv1 hv2
  obtain ⟨cs, rfl, hcs⟩ := hv2
  simp only [RepL] at hcs
  subst hcs
  obtain ⟨hbl, _, hv1⟩ := hv1
  obtain ⟨A, c, rfl, hc1, hc2, hv1⟩ := (hv1 _ _ _ _ hb).2 rfl
  have hnil : l = [] → Calls Try.prog 25 #[.slice A l.length c, .func (.func 26) #[] #[]] w fun e' w' => ∃ v Γ', e' = .returned v ∧ Γ'.T = Γ.T.set b (.row ver false 2 (sortL l)) ∧ Fr Γ.T.length Γ w Γ' w' ∧ Rep Γ' w' (.tup []) v := by
    rintro rfl
    refine (sort_none A c _ w).mono ?_
    rintro e' w' ⟨rfl, rfl⟩
    refine ⟨_, Γ, rfl, ?_, Fr.refl hi (Nat.le_refl _), ?_⟩
    · have : sortL [] = [] := List.length_eq_zero_iff.1 (by rw [sortL_len]; rfl)
      rw [this, set_same hb]
    · simp only [Rep]
      exact ⟨[], rfl, by simp only [RepL]⟩
  rcases hv1 with ⟨g, arr, ty, hg, rfl, hh, hsz⟩ | ⟨hl0, _⟩
  case inr => exact hnil hl0
  have hrow := hi.row b _ _ _ _ hb
  rcases hrow with ⟨k1, _⟩ | ⟨g', arr', ty', k1, k2, k3, k4, k5, k6⟩
  · rw [hg] at k1; cases k1
  rw [hg] at k1; cases k1
  rw [hh] at k2; cases k2
  have hl := map_ends hends
  rw [hl] at k4
  have hcell := cells_of (l.map endOf) 0 k4
  have hH := holds_of hh (l.map endOf) hcell
  have hd : (l.map endOf).toArray.size = l.length := by simp
  have hgs : g < w.heap.size := (Array.getElem?_eq_some_iff.1 hh).1
  have hs := sort_calls g c (l.map endOf).toArray w hH hgs (by rw [hd]; omega)
  rw [hd] at hs
  refine hs.mono ?_
  rintro e' w' ⟨rfl, n, os, rfl⟩
  have hF : (flatK encE 2 (sortE (l.map endOf)).toArray).size = l.length * 2 := by rw [size_flatK]; simp [sortE_len]
  have hheap : (sortWorldK encE 2 w g 0 n (sortE (l.map endOf)).toArray os).heap[g]? = some (.cells (putCells id 0 (flatK encE 2 (sortE (l.map endOf)).toArray) arr) ty (0, 0)) := by
    unfold sortWorldK putRowK putRow
    rw [heap_grow_old _ _ (by simp [mapBlock, ahead]; exact hgs)]
    simp [mapBlock, ahead, Array.getElem?_modify, hh, onCells]
  have hold : ∀ g2, g2 < w.heap.size → some g ≠ some g2 → (sortWorldK encE 2 w g 0 n (sortE (l.map endOf)).toArray os).heap[g2]? = w.heap[g2]? := by
    intro g2 h2 hne
    unfold sortWorldK putRowK putRow
    rw [heap_grow_old _ _ (by simp [mapBlock, ahead]; exact h2)]
    simp only [mapBlock, ahead, Array.getElem?_modify]
    rw [if_neg (fun e => hne (by rw [e]))]
    rfl
  have hput : (putCells id 0 (flatK encE 2 (sortE (l.map endOf)).toArray) arr).size = arr.size := by simp [putCells]
  have hq : Quiet w (sortWorldK encE 2 w g 0 n (sortE (l.map endOf)).toArray os) := ⟨rfl, rfl, rfl, by simp [sortWorldK, putRowK, putRow, mapBlock, ahead, grow]⟩
  have hov : Over w (sortWorldK encE 2 w g 0 n (sortE (l.map endOf)).toArray os) (.row ver false 2 l) (.row ver false 2 (sortL l)) (some g) (some g) :=
    ⟨Nat.le_refl _, fun _ => ⟨rfl, (sortL_len l).symm, rfl, fun g1 a1 t1 e1 h1 => by cases e1; rw [hh] at h1; cases h1; exact ⟨_, hheap, hput⟩⟩⟩
  refine ⟨_, Γ.set b (.row ver false 2 (sortL l)) (some g), rfl, rfl, (Fr.refl hi (Nat.le_refl _)).step (step_set hi hq hb hg rfl hov hold (.inl rfl) ?_), ?_⟩
  · refine .inr ⟨g, _, ty, rfl, hheap, by rw [sortL_len, hput]; exact k3, ?_, (fun h => by cases h), k6⟩
    refine of_cells _ 0 fun i hi2 => ?_
    have hi3 : i < l.length := by rw [sortE_len, List.length_map] at hi2; exact hi2
    have hf := flat_get (sortE (l.map endOf)).toArray (i := i) (by simpa using hi2)
    have hget : ∀ k, k < l.length * 2 → (sortWorldK encE 2 w g 0 n (sortE (l.map endOf)).toArray os).cell? ⟨g, k, none⟩ = some (flatK encE 2 (sortE (l.map endOf)).toArray)[k]! := by
      intro k hk
      rw [cell_row hheap]
      have hka : k < arr.size := by omega
      simp only [putCells, Array.getElem?_mapIdx, Array.getElem?_eq_getElem hka, Option.map_some, hF]
      rw [if_pos ⟨by omega, by omega⟩]; rfl
    rw [Nat.zero_add, hget _ (by omega), hget _ (by omega), hf.1, hf.2]
    simp
  · simp only [Rep]
    exact ⟨[], rfl, by simp only [RepL]⟩
end
end Go.Proofs.Ytfcedalbamafiaa
