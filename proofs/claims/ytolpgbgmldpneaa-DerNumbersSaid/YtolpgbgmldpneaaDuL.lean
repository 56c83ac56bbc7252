/- slices.Insert at bytes, as the ideal machine's contract. It bears no condition. -/
import Derived.Test.YtolpgbgmldpneaaDuK
import Derived.Maps.Own
namespace Go.Proofs.Ytolpgbgmldpneaa
open Go Go.Im Go.RowKit Go.Maps
set_option linter.unusedVariables false
set_option linter.unusedSimpArgs false
set_option maxRecDepth 20000
noncomputable section

theorem setCells_parts (g : Nat) : ∀ (vs : List Value) (o : Nat) (w : World), (w.setCells g o vs).os = w.os ∧ (w.setCells g o vs).tape = w.tape ∧ (w.setCells g o vs).output = w.output ∧ (w.setCells g o vs).heap.size = w.heap.size ∧ (∀ i, i ≠ g → (w.setCells g o vs).heap[i]? = w.heap[i]?) ∧
    ∀ arr ty, w.heap[g]? = some (.cells arr ty (0, 0)) → ∃ arr', (w.setCells g o vs).heap[g]? = some (.cells arr' ty (0, 0)) ∧ arr'.size = arr.size
  | [], o, w => ⟨rfl, rfl, rfl, rfl, fun _ _ => rfl, fun arr ty h => ⟨arr, h, rfl⟩⟩
  | v :: r, o, w => by
    obtain ⟨h1, h2, h3, h4, h5, h6⟩ := setCells_parts g r (o + 1) (w.setCell ⟨g, o, none⟩ v)
    rw [World.setCells]
    refine ⟨h1, h2, h3, h4.trans (by simp [World.setCell]), fun i hi => (h5 i hi).trans (by simp [World.setCell, Array.getElem?_modify, Ne.symm hi]), fun arr ty h => ?_⟩
    obtain ⟨arr', k1, k2⟩ := h6 (arr.setIfInBounds o v) ty (by simp [World.setCell, Array.getElem?_modify, h])
    exact ⟨arr', k1, k2.trans (by simp)⟩
theorem u8_cells {ok : Nat → Prop} {w : World} {g : Nat} : ∀ (b : List UInt8) (o : Nat), (∀ i (h : i < b.length), w.cell? ⟨g, o + i, none⟩ = some (.int .u8 (b[i].toNat : Int))) → RepEs ok w 1 g o (u8s b)
  | [], o, h => by simp [RepEs, u8s]
  | x :: b, o, h => by
    rw [u8s_cons, RepEs_cons]
    have e1 := h 0 (by simp)
    refine ⟨⟨rfl, ?_⟩, u8_cells b (o + 1) fun i hi => ?_⟩
    · simp only [IV.cells, RepCs, RepC, and_true]
      exact ⟨rfl, _, e1, rfl⟩
    · have := h (i + 1) (by simp; omega)
      rw [show o + (i + 1) = o + 1 + i by omega] at this
      exact this
theorem cells_u8 {ok : Nat → Prop} {w : World} {g : Nat} : ∀ (b : List UInt8) (o : Nat), RepEs ok w 1 g o (u8s b) → ∀ i (h : i < b.length), w.cell? ⟨g, o + i, none⟩ = some (.int .u8 (b[i].toNat : Int))
  | [], _, _, i, h => by simp at h
  | x :: b, o, hr, i, h => by
    rw [u8s_cons, RepEs_cons] at hr
    obtain ⟨⟨_, h1⟩, h2⟩ := hr
    cases i with
    | zero =>
      simp only [IV.cells, RepCs, RepC, and_true] at h1
      obtain ⟨_, v, e1, rfl⟩ := h1
      exact e1
    | succ i =>
      have ih := cells_u8 b (o + 1) h2 i (by simpa using h)
      rw [show o + (i + 1) = o + 1 + i by omega]
      exact ih
/-- What is left where a row got a byte more ahead. -/
theorem ins_fin {Γ : Cx} {w w' : World} {b : List UInt8} {z : Blk} (hi : Inv Γ w) (hT : Γ.T = [.row 0 false 1 (u8s b), z]) {og : Option Nat} (hr : Γ.ρ[0]? = some og) (hq : Quiet w w') (hold : ∀ g, g < w.heap.size → og ≠ some g → w'.heap[g]? = w.heap[g]?)
    {g : Nat} (hg : og = some g ∨ w.heap.size ≤ g) (hok : ¬ Γ.ok g) {arr : Array Value} {ty : TypeId} (hh : w'.heap[g]? = some (.cells arr ty (0, 0))) {c : Nat} (hc : arr.size = c) (h1 : b.length + 1 ≤ c) (h2 : c ≤ maxLen)
    (hcells : ∀ j (h : j < (0 :: b : List UInt8).length), w'.cell? ⟨g, j, none⟩ = some (.int .u8 ((0 :: b : List UInt8)[j].toNat : Int))) :
    ∃ Γ', Γ'.T = [.row 1 false 1 (gIns (u8s b)), z] ∧ Fr Γ.T.length Γ w Γ' w' ∧ Rep Γ' w' (.osl 0 1) (.slice (some ⟨g, 0, none⟩) (b.length + 1) c) := by
  have hb : Γ.T[0]? = some (.row 0 false 1 (u8s b)) := by rw [hT]; rfl
  have hbl : 0 < Γ.T.length := by rw [hT]; simp
  have hgi : gIns (u8s b) = u8s (0 :: b) := rfl
  rw [hgi]
  have hT1 : (Γ.set 0 (.row 1 false 1 (u8s (0 :: b))) (some g)).T = [.row 1 false 1 (u8s (0 :: b)), z] := by simp [Cx.set, hT]
  have hρ1 : (Γ.set 0 (.row 1 false 1 (u8s (0 :: b))) (some g)).ρ[0]? = some (some g) := by simp only [Cx.set]; rw [List.getElem?_set_self (by rw [hi.len]; exact hbl)]
  have hov : Over w w' (.row 0 false 1 (u8s b)) (.row 1 false 1 (u8s (0 :: b))) og (some g) := ⟨by omega, fun h => by omega⟩
  refine ⟨_, hT1, (Fr.refl hi (Nat.le_refl _)).step (step_set hi hq hb hr rfl hov hold (hg.elim (fun h => .inl h.symm) fun h => .inr fun x e => by cases e; exact h) ?_), ?_⟩
  · refine .inr ⟨g, arr, ty, rfl, hh, by rw [u8s_len, hc, List.length_cons]; omega, u8_cells _ 0 fun i hi => ?_, (fun h => by cases h), fun _ => hok⟩
    rw [Nat.zero_add]
    exact hcells i hi
  · simp only [Rep, RefO]
    rw [hT1]
    refine ⟨by simp, rfl, fun ver' fz e l hr => ?_⟩
    simp only [List.getElem?_cons_zero, Option.some.injEq, Blk.row.injEq] at hr
    obtain ⟨rfl, rfl, rfl, rfl⟩ := hr
    exact ⟨Nat.le_refl _, fun _ => ⟨some ⟨g, 0, none⟩, c, by rw [u8s_len, List.length_cons], by rw [u8s_len, List.length_cons]; omega, h2, .inl ⟨g, arr, ty, hρ1, rfl, hh, by omega⟩⟩⟩
def ivs (b : List UInt8) : List Value := b.map fun (x : UInt8) => Value.int .u8 (x.toNat : Int)
theorem ivs_len (b : List UInt8) : (ivs b).length = b.length := by simp [ivs]
theorem ivs_one (b : List UInt8) : ∀ v ∈ ivs b, v.oneCell' = true := by
  intro v hv
  obtain ⟨x, _, rfl⟩ := List.mem_map.1 hv
  rfl
theorem ivs_get {b : List UInt8} {j : Nat} {v : Value} (h : (ivs b)[j]? = some v) : ∃ hj : j < b.length, v = .int .u8 (b[j].toNat : Int) := by
  unfold ivs at h
  rw [List.getElem?_map] at h
  by_cases hj : j < b.length
  · rw [List.getElem?_eq_getElem hj] at h
    exact ⟨hj, (Option.some.inj h).symm⟩
  · rw [List.getElem?_eq_none (by omega)] at h
    cases h
theorem ins_new {Γ : Cx} {w : World} {z : Blk} (hi : Inv Γ w) (hT : Γ.T = [.row 0 false 1 (u8s []), z]) {og : Option Nat} (hr : Γ.ρ[0]? = some og) {G : Nat} (h1 : 1 ≤ G) (h2 : G ≤ maxLen) :
    ∃ Γ', Γ'.T = [.row 1 false 1 (gIns (u8s [])), z] ∧ Fr Γ.T.length Γ w Γ' (w.drew.alloc (.cells (([] ++ ivs [0]).toArray ++ Builtin.zeroCells (Value.int .u8 0).cells (G - (0 + 1))) 5)) ∧
      Rep Γ' (w.drew.alloc (.cells (([] ++ ivs [0]).toArray ++ Builtin.zeroCells (Value.int .u8 0).cells (G - (0 + 1))) 5)) (.osl 0 1) (.slice (some ⟨w.heap.size, 0, none⟩) 1 G) := by
  generalize hR : ([] ++ ivs [0]).toArray ++ Builtin.zeroCells (Value.int .u8 0).cells (G - (0 + 1)) = R
  have hRs : R.size = G := by rw [← hR]; simp [Builtin.zeroCells, Value.cells, ivs]; omega
  have hR0 : R[0]? = some (.int .u8 0) := by rw [← hR]; simp [ivs, Array.getElem?_append]
  have a1 : (w.drew.alloc (.cells R 5)).heap[w.heap.size]? = some (.cells R 5 (0, 0)) := (MapKept.heap_alloc w.drew _).1
  refine ins_fin (b := []) (w' := w.drew.alloc (.cells R 5)) hi hT hr ⟨rfl, rfl, rfl, by simp⟩ (fun x hx _ => (MapKept.heap_alloc w.drew _).2 x hx) (.inr (Nat.le_refl _)) (fun h => by have := hi.okb _ h; omega) a1 hRs h1 h2 (fun j h => ?_)
  have hj : j = 0 := by simpa using h
  subst hj
  rw [cell_row a1, hR0]
  rfl
theorem ins_calls {Γ : Cx} {w : World} {b : List UInt8} {vs : List Value} (hb : b.length ≤ 100000000) (hi : Inv Γ w) (hT : Γ.T = [.row 0 false 1 (u8s b), .row 0 false 1 [.int .u8 0]]) (hrep : RepL Γ w [.osl 0 0, .int .i64 0, .osl 1 0] vs) :
    Calls Try.prog 41 vs.toArray w fun e' w' => ∃ v Γ', e' = .returned v ∧ Γ'.T = [.row 1 false 1 (gIns (u8s b)), .row 0 false 1 [.int .u8 0]] ∧ Fr Γ.T.length Γ w Γ' w' ∧ Rep Γ' w' (.osl 0 1) v := by
  have hb0 : Γ.T[0]? = some (.row 0 false 1 (u8s b)) := by rw [hT]; rfl
  have hb1 : Γ.T[1]? = some (.row 0 false 1 [.int .u8 0]) := by rw [hT]; rfl
  simp only [RepL] at hrep
  obtain ⟨v1, us, rfl, hv1, v2, us', rfl, hv2, v3, us2, rfl, hv3, rfl⟩ := hrep
  simp only [Rep, RefO] at hv1 hv2 hv3
  subst hv2
  obtain ⟨hbl, _, hv1⟩ := hv1
  obtain ⟨A, c, rfl, hc1, hc2, hv1⟩ := (hv1 _ _ _ _ hb0).2 rfl
  obtain ⟨_, _, hv3⟩ := hv3
  obtain ⟨A3, c3, rfl, hd1, hd2, hv3⟩ := (hv3 _ _ _ _ hb1).2 rfl
  rcases hv3 with ⟨g3, arr3, ty3, hg3, rfl, hh3, hsz3⟩ | ⟨hl0, _⟩
  case inr => cases hl0
  have hrow3 := hi.row 1 _ _ _ _ hb1
  rcases hrow3 with ⟨k1, _⟩ | ⟨g', arr', ty', k1, k2, k3, k4, k5, k6⟩
  · rw [hg3] at k1; cases k1
  rw [hg3] at k1; cases k1
  rw [hh3] at k2; cases k2
  have hcell3 := cells_u8 [0] 0 k4
  have hgs3 : g3 < w.heap.size := (Array.getElem?_eq_some_iff.1 hh3).1
  rw [u8s_len] at hc1 ⊢
  simp only [List.length_singleton] at hd1 ⊢
  have hvs3 : ∀ j v, (ivs [0])[j]? = some v → w.cell? ⟨g3, 0 + j, none⟩ = some v := fun j v h => by
    obtain ⟨hj, rfl⟩ := ivs_get h
    exact hcell3 j hj
  have hmax : maxLen = 9223372036854775807 := rfl
  have h63 : c ≤ 9223372036854775807 := hc2
  obtain ⟨og, hog, hbr⟩ := inv_blk hi hb0
  have hgz : ∀ j (h : j < (0 :: b : List UInt8).length), (0 :: b : List UInt8)[j] = if h0 : j = 0 then 0 else b[j - 1]'(by simp at h; omega) := fun j h => by
    cases j with
    | zero => rfl
    | succ j => rfl
  rcases hv1 with ⟨g, arr, ty, hg, rfl, hh, hsz⟩ | ⟨hl0, hc0⟩
  · rw [Nat.mul_one] at hsz
    rw [hg] at hog
    cases hog
    have hne : g3 ≠ g := fun e => by
      subst e
      have := hi.inj 0 1 g3 _ _ hb0 rfl hb1 rfl hg hg3
      cases this
    rcases hbr with ⟨e, _⟩ | ⟨g', arr', ty', e1, e2, e3, e4, e5, e6⟩
    · cases e
    cases e1
    rw [hh] at e2; cases e2
    have hcell := cells_u8 b 0 e4
    have hgs : g < w.heap.size := (Array.getElem?_eq_some_iff.1 hh).1
    have hhave : ∀ j, j < c → (w.cell? ⟨g, 0 + j, none⟩).isSome = true := fun j hj => by
      rw [Nat.zero_add, cell_row hh, Array.getElem?_eq_getElem (by omega)]; rfl
    have hhave2 : ∀ k, k < c → (w.drew.cell? ⟨g, k, none⟩).isSome = true := fun k hk => by have := hhave k hk; rw [Nat.zero_add] at this; exact this
    have hfz : ∀ j, w.frozen? ⟨g, j, none⟩ = false := fun j => by simp [World.frozen?, hh]
    by_cases h0 : b.length = 0
    · obtain rfl := List.length_eq_zero_iff.1 h0
      by_cases hc0 : c = 0
      · -- nothing there: a new row
        subst hc0
        have hs := ins_end_grow (some ⟨g, 0, none⟩) 0 0 g3 0 1 c3 [] (ivs [0]) w (by omega) (by omega) (by omega) (by omega) rfl rfl (fun h => by cases h) (fun a _ j v h => by simp at h) hvs3 (ivs_one _)
        refine hs.mono ?_
        rintro e' w' ⟨rfl, rfl⟩
        obtain ⟨Γ', f1, f2, f3⟩ := ins_new hi hT hg (G := grownCap w (0 + 1) 0 5) (grownCap_ge w (0 + 1) 0 5) (grownCap_le_maxLen w (0 + 1) 0 5 (by rw [hmax]; omega))
        exact ⟨_, Γ', rfl, f1, f2, f3⟩
      · have hs := ins_end_room g 0 0 c g3 0 1 c3 (ivs [0]) w (by omega) (by omega) h63 rfl (fun j hj => by rw [show 0 + 0 + j = 0 + j by omega]; exact hhave j (by omega)) (fun j hj => hfz _) hvs3 (ivs_one _)
        refine hs.mono ?_
        rintro e' w' ⟨rfl, rfl⟩
        obtain ⟨s1, s2, s3, s4, s5, s6⟩ := setCells_parts g (ivs [0]) (0 + 0) w
        obtain ⟨arr2, t1, t2⟩ := s6 arr ty hh
        obtain ⟨Γ', f1, f2, f3⟩ := ins_fin (b := []) hi hT hg ⟨s1, s2, s3, Nat.le_of_eq s4.symm⟩ (fun x hx hne => s5 x fun e => hne (by rw [e])) (.inl rfl) (e6 rfl) t1 (t2.trans hsz) (by simp; omega) hc2 (fun j h => by
          have hj : j = 0 := by simpa using h
          subst hj
          exact World.cell?_setCells_in g (ivs [0]) (0 + 0) w (fun j hj => by rw [show 0 + 0 + j = 0 + j by omega]; exact hhave j (by rw [ivs_len] at hj; simp at hj; omega)) 0 (by simp [ivs]))
        exact ⟨_, Γ', rfl, f1, f2, f3⟩
    · by_cases hroom : b.length + 1 ≤ c
      · -- in place
        have hs := ins_shift g 0 b.length c 0 g3 0 1 c3 (ivs b) (ivs [0]) w (by omega) (by omega) hroom h63 hne (ivs_len b) rfl (fun j v h => by obtain ⟨hj, rfl⟩ := ivs_get h; exact hcell j hj) (fun j hj => hhave j (by omega)) (fun j hj => hfz _) hvs3 (ivs_one _) (ivs_one _)
          ty3 ty arr3.size arr.size (by simp [World.shape?, hh3]) (by simp [World.shape?, hh]) (by omega) (by simp [World.frozen?, hh3]) (by simp [World.frozen?, hh3])
        refine hs.mono ?_
        rintro e' w' ⟨rfl, rfl⟩
        have hiv : (ivs b).drop 0 = ivs b := List.drop_zero
        rw [hiv]
        obtain ⟨s1, s2, s3, s4, s5, s6⟩ := setCells_parts g (ivs b) (0 + (0 + 1)) w.drew
        obtain ⟨arr2, t1, t2⟩ := s6 arr ty hh
        generalize hW : w.drew.setCells g (0 + (0 + 1)) (ivs b) = W at *
        obtain ⟨r1, r2, r3, r4, r5, r6⟩ := setCells_parts g (ivs [0]) (0 + 0) W
        obtain ⟨arr4, t3, t4⟩ := r6 arr2 ty t1
        obtain ⟨Γ', f1, f2, f3⟩ := ins_fin (b := b) hi hT hg ⟨r1.trans s1, r2.trans s2, r3.trans s3, Nat.le_of_eq (r4.trans s4).symm⟩ (fun x hx hne => (r5 x fun e => hne (by rw [e])).trans (s5 x fun e => hne (by rw [e]))) (.inl rfl) (e6 rfl) t3 (t4.trans (t2.trans hsz)) (by omega) hc2 (fun j h => by
          have hj : j < b.length + 1 := by simpa using h
          rw [hgz j h]
          by_cases j0 : j = 0
          · subst j0
            have := World.cell?_setCells_in g (ivs [0]) (0 + 0) W (fun j hj => by
              rw [← hW]
              exact Go.Proofs.isSome_setCells g (ivs b) _ _ (fun q hq => hhave2 _ (by rw [ivs_len] at hq; omega)) _ (hhave2 _ (by rw [ivs_len] at hj; simp at hj; omega))) 0 (by simp [ivs])
            simpa [ivs] using this
          · rw [dif_neg j0, World.cell?_setCells_out g (ivs [0]) (0 + 0) W ⟨g, j, none⟩ (fun _ _ => by simp [ivs]; omega), ← hW]
            have := World.cell?_setCells_in g (ivs b) (0 + (0 + 1)) w.drew (fun q hq => hhave2 _ (by rw [ivs_len] at hq; omega)) (j - 1) (by rw [ivs_len]; omega)
            rw [show 0 + (0 + 1) + (j - 1) = j by omega] at this
            rw [this]
            simp [ivs])
        exact ⟨_, Γ', rfl, f1, f2, f3⟩
      · -- a new row
        have hs := ins_grow g 0 b.length c 0 g3 0 1 c3 (ivs b) (ivs [0]) w (by omega) (by omega) hc1 (by omega) (by omega) (ivs_len b) rfl (fun j v h => by obtain ⟨hj, rfl⟩ := ivs_get h; exact hcell j hj) hvs3 (ivs_one _) (ivs_one _)
        refine hs.mono ?_
        rintro e' w' ⟨rfl, rfl⟩
        have hiv : (ivs b).drop 0 = ivs b := List.drop_zero
        rw [hiv]
        have hge := grownCap_ge w (b.length + 1) c 5
        have hle := grownCap_le_maxLen w (b.length + 1) c 5 (by rw [hmax]; omega)
        generalize hG : grownCap w (b.length + 1) c 5 = G at *
        generalize hR : ((ivs b).take 0).toArray ++ Builtin.zeroCells (Value.int .u8 0).cells (b.length + 1 - 0) ++ Builtin.zeroCells (Value.int .u8 0).cells (G - (b.length + 1)) = R
        have hRs : R.size = G := by rw [← hR]; simp [Builtin.zeroCells, Value.cells]; omega
        obtain ⟨a1, a2⟩ := MapKept.heap_alloc w (Obj.cells R 5)
        obtain ⟨s1, s2, s3, s4, s5, s6⟩ := setCells_parts w.heap.size (ivs [0]) 0 (w.alloc (.cells R 5)).drew
        obtain ⟨arr2, t1, t2⟩ := s6 R 5 a1
        have hsome : ∀ j, j < G → ((w.alloc (.cells R 5)).drew.cell? ⟨w.heap.size, j, none⟩).isSome = true := fun j hj => by
          have e : (w.alloc (.cells R 5)).drew.cell? ⟨w.heap.size, j, none⟩ = (w.alloc (.cells R 5)).cell? ⟨w.heap.size, j, none⟩ := rfl
          rw [e, cell_row a1, Array.getElem?_eq_getElem (by omega)]; rfl
        generalize hW : (w.alloc (.cells R 5)).drew.setCells w.heap.size 0 (ivs [0]) = W at *
        obtain ⟨r1, r2, r3, r4, r5, r6⟩ := setCells_parts w.heap.size (ivs b) (0 + 1) W.drew
        obtain ⟨arr4, t3, t4⟩ := r6 arr2 5 t1
        have hsome2 : ∀ j, j < G → (W.drew.cell? ⟨w.heap.size, j, none⟩).isSome = true := fun j hj => by
          have e : W.drew.cell? ⟨w.heap.size, j, none⟩ = W.cell? ⟨w.heap.size, j, none⟩ := rfl
          rw [e, ← hW]
          exact Go.Proofs.isSome_setCells _ _ _ _ (fun q hq => by rw [Nat.zero_add]; exact hsome q (by rw [ivs_len] at hq; simp at hq; omega)) _ (hsome j hj)
        obtain ⟨Γ', f1, f2, f3⟩ := ins_fin (b := b) hi hT hg (w' := W.drew.setCells w.heap.size (0 + 1) (ivs b)) ⟨r1.trans s1, r2.trans s2, r3.trans s3, by rw [r4]; show w.heap.size ≤ W.heap.size; rw [s4]; simp⟩
          (fun x hx _ => (r5 x (by omega)).trans ((s5 x (by omega)).trans (a2 x hx))) (g := w.heap.size) (.inr (Nat.le_refl _)) (fun h => by have := hi.okb _ h; omega) t3 (c := G) (t4.trans (t2.trans hRs)) (by omega) hle (fun j h => by
          have hj : j < b.length + 1 := by simpa using h
          rw [hgz j h]
          by_cases j0 : j = 0
          · subst j0
            rw [World.cell?_setCells_out w.heap.size (ivs b) (0 + 1) W.drew ⟨w.heap.size, 0, none⟩ (fun _ _ => by simp)]
            have e : W.drew.cell? ⟨w.heap.size, 0, none⟩ = W.cell? ⟨w.heap.size, 0, none⟩ := rfl
            rw [e, ← hW]
            have := World.cell?_setCells_in w.heap.size (ivs [0]) 0 (w.alloc (.cells R 5)).drew (fun q hq => by rw [Nat.zero_add]; exact hsome q (by rw [ivs_len] at hq; simp at hq; omega)) 0 (by simp [ivs])
            simpa [ivs] using this
          · rw [dif_neg j0]
            have := World.cell?_setCells_in w.heap.size (ivs b) (0 + 1) W.drew (fun q hq => hsome2 _ (by rw [ivs_len] at hq; omega)) (j - 1) (by rw [ivs_len]; omega)
            rw [show 0 + 1 + (j - 1) = j by omega] at this
            rw [this]
            simp [ivs])
        exact ⟨_, Γ', rfl, f1, f2, f3⟩
  · have h0 : b.length = 0 := by have := congrArg List.length hl0; simpa [u8s] using this
    obtain rfl := List.length_eq_zero_iff.1 h0
    subst hc0
    have hs := ins_end_grow A 0 0 g3 0 1 c3 [] (ivs [0]) w (by omega) (by omega) (by omega) (by omega) rfl rfl (fun h => rfl) (fun a _ j v h => by simp at h) hvs3 (ivs_one _)
    refine hs.mono ?_
    rintro e' w' ⟨rfl, rfl⟩
    obtain ⟨Γ', f1, f2, f3⟩ := ins_new hi hT hog (G := grownCap w (0 + 1) 0 5) (grownCap_ge w (0 + 1) 0 5) (grownCap_le_maxLen w (0 + 1) 0 5 (by rw [hmax]; omega))
    exact ⟨_, Γ', rfl, f1, f2, f3⟩
theorem ins_known : Known Try.prog hint 41 (insP cIns gIns) := by
  intro f xs T r T1 hr
  simp only at hr
  split at hr
  case isFalse => cases hr
  rename_i hf
  subst hf
  refine ⟨⟨_, Try.func41, by decide, rfl⟩, ?_⟩
  intro Γ w vs hi hT hgl hrep hng
  obtain ⟨⟨t, v, T2⟩, hF, e⟩ := Option.map_eq_some_iff.1 hr
  cases e
  have ht := List.find?_some hF
  have hm := List.mem_of_find?_eq_some hF
  simp only at ht
  subst ht
  unfold insP at hm
  split at hm
  · rename_i i o l2
    simp only [List.mem_cons, List.not_mem_nil, or_false, Prod.mk.injEq, Bool.true_eq, cIns, decide_eq_true_eq] at hm
    obtain ⟨⟨rfl, rfl, h1, h2⟩, rfl, rfl⟩ := hm
    have e := okB_eq h2
    generalize toBytes o = b at *
    subst e
    rw [u8s_len] at h1
    have := ins_calls h1 hi hT hrep
    rw [hT] at this
    exact this
  · cases hm
end
end Go.Proofs.Ytolpgbgmldpneaa
