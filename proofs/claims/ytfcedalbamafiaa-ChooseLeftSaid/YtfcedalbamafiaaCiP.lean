/- slices.Delete of a row of ints, as the kit tells it. It bears no condition. -/
import Derived.Test.YtfcedalbamafiaaChBase
import Derived.Shelf.Slices.Empties
namespace Go.Proofs.Ytfcedalbamafiaa
open Go Go.Im
set_option linter.unusedVariables false
set_option linter.unusedSimpArgs false
noncomputable section

def delI_ren : Go.Shelf.Ren := ⟨fun x => match x with | 23 => 31 | n => n, fun x => match x with | 22 => 37 | n => n, fun n => n⟩
theorem delI : Lays2.n23 Try.prog delI_ren where
  mixed := by kernel_rfl
  f23 := Try.func31.trans (congrArg some (by kernel_rfl))
  t0 := Try.underlying0
  a0 := Try.isAgg0
  z0 := Try.sizeOf0
  v0 := Try.zeroValue0
  t3 := Try.underlying3
  a3 := Try.isAgg3
  z3 := Try.sizeOf3
  v3 := Try.zeroValue3
  t4 := Try.underlying4
  a4 := Try.isAgg4
  z4 := Try.sizeOf4
  v4 := Try.zeroValue4
  t22 := Try.underlying37
  a22 := Try.isAgg37
  z22 := Try.sizeOf37
  v22 := Try.zeroValue37
  i3 := by kernel_rfl

def delP (c : List IV → Int → Int → Bool) (g : List IV → Int → List IV) : SpecF := fun xs T => match xs, T with
  | [.osl 0 0, .int .i64 i, .int .i64 j], [.row 0 false 1 l] => [(c l i j, .osl 0 1, [.row 1 false 1 (g l i)])]
  | _, _ => []
def cD (l : List IV) (i j : Int) : Bool := @decide (j = i + 1 ∧ 0 ≤ i ∧ i < (l.length : Int) ∧ ∃ zs : List Int, l = zs.map (IV.int .i64)) (Classical.propDecidable _)
def gD (l : List IV) (i : Int) : List IV := l.take i.toNat ++ l.drop (i.toNat + 1)
theorem cells_ints {ok : Nat → Prop} {w : World} {g : Nat} : ∀ (ds : List Int) (o : Nat), RepEs ok w 1 g o (ds.map (IV.int .i64)) → ∀ i (h : i < ds.length), w.cell? ⟨g, o + i, none⟩ = some (.int .i64 ds[i])
  | [], _, _, i, h => by simp at h
  | x :: ds, o, hr, i, h => by
    rw [List.map_cons, RepEs_cons] at hr
    obtain ⟨⟨_, h1⟩, h2⟩ := hr
    cases i with
    | zero =>
      simp only [IV.cells, RepCs, RepC, and_true] at h1
      obtain ⟨_, v, e1, rfl⟩ := h1
      exact e1
    | succ i =>
      have ih := cells_ints ds (o + 1) h2 i (by simpa using h)
      rw [show o + (i + 1) = o + 1 + i by omega]
      exact ih
theorem ints_cells {ok : Nat → Prop} {w : World} {g : Nat} : ∀ (ds : List Int) (o : Nat), (∀ i (h : i < ds.length), w.cell? ⟨g, o + i, none⟩ = some (.int .i64 ds[i])) → RepEs ok w 1 g o (ds.map (IV.int .i64))
  | [], _, _ => by simp [RepEs]
  | x :: ds, o, h => by
    rw [List.map_cons, RepEs_cons]
    have e1 := h 0 (by simp)
    refine ⟨⟨rfl, ?_⟩, ints_cells ds (o + 1) fun i hi => ?_⟩
    · simp only [IV.cells, RepCs, RepC, and_true]
      exact ⟨rfl, _, e1, rfl⟩
    · have := h (i + 1) (by simp; omega)
      rw [show o + (i + 1) = o + 1 + i by omega] at this
      exact this
theorem known31 (h : ∀ (zs : List Int) (i : Nat) (Γ : Cx) (w : World) (vs : List Value), i < zs.length → Γ.T = [.row 0 false 1 (zs.map (IV.int .i64))] → Inv Γ w → RepL Γ w [.osl 0 0, .int .i64 (i : Int), .int .i64 ((i : Int) + 1)] vs →
    Calls Try.prog 31 vs.toArray w fun e' w' => ∃ v Γ', e' = .returned v ∧ Γ'.T = [.row 1 false 1 ((zs.take i ++ zs.drop (i + 1)).map (IV.int .i64))] ∧ Fr Γ.T.length Γ w Γ' w' ∧ Rep Γ' w' (.osl 0 1) v) : Known Try.prog hint 31 (delP cD gD) := by
  intro f xs T r T1 hr
  simp only at hr
  split at hr
  case isFalse => cases hr
  rename_i hf
  subst hf
  refine ⟨⟨_, Try.func31, by decide, rfl⟩, ?_⟩
  intro Γ w vs hi hT hgl hrep hng
  obtain ⟨⟨t, v, T2⟩, hF, e⟩ := Option.map_eq_some_iff.1 hr
  cases e
  have ht := List.find?_some hF
  have hm := List.mem_of_find?_eq_some hF
  simp only at ht
  subst ht
  unfold delP at hm
  split at hm
  · rename_i i j l
    simp only [List.mem_cons, List.not_mem_nil, or_false, Prod.mk.injEq, Bool.true_eq, cD, decide_eq_true_eq] at hm
    obtain ⟨⟨rfl, h1, h2, zs, rfl⟩, rfl, rfl⟩ := hm
    have hl : i.toNat < zs.length := by simp at h2; omega
    have hi0 : i = (i.toNat : Int) := by omega
    rw [hi0] at hrep
    have := h zs i.toNat Γ w vs hl hT hi hrep
    rw [hT] at this
    simpa only [gD, List.map_append, List.map_take, List.map_drop] using this
  · cases hm
theorem del_known : Known Try.prog hint 31 (delP cD gD) := by
  refine known31 fun zs i Γ w vs hlt hT hi hrep => ?_
  have hb : Γ.T[0]? = some (.row 0 false 1 (zs.map (IV.int .i64))) := by rw [hT]; rfl
  simp only [RepL] at hrep
  obtain ⟨v1, us, rfl, hv1, v2, us', rfl, hv2, v3, us2, rfl, hv3, rfl⟩ := hrep
  simp only [Rep, RefO] at hv1 hv2 hv3
  subst hv2 hv3
  obtain ⟨hbl, _, hv1⟩ := hv1
  obtain ⟨A, c, rfl, hc1, hc2, hv1⟩ := (hv1 _ _ _ _ hb).2 rfl
  rcases hv1 with ⟨g, arr, ty, hg, rfl, hh, hsz⟩ | ⟨hl0, _⟩
  case inr => have := congrArg List.length hl0; simp at this; subst this; simp at hlt
  have hrow := hi.row 0 _ _ _ _ hb
  rcases hrow with ⟨k1, _⟩ | ⟨g', arr', ty', k1, k2, k3, k4, k5, k6⟩
  · rw [hg] at k1; cases k1
  rw [hg] at k1; cases k1
  rw [hh] at k2; cases k2
  have hcell := cells_ints zs 0 k4
  have hH : Sort.Holds (Value.int .i64) w g 0 zs.toArray := by
    intro j hj
    have hj' : j < zs.length := by simpa using hj
    refine ⟨?_, by simp [World.frozen?, hh]⟩
    rw [hcell j hj', getElem!_pos zs.toArray j hj]
    simp
  rw [List.length_map] at hc1 k3 ⊢
  have hgs : g < w.heap.size := (Array.getElem?_eq_some_iff.1 hh).1
  have hs := Any.slices_Delete_int delI g 0 c i (i + 1) zs w hH hc1 hc2 (by omega) (by omega)
  have hz : (zs.take i ++ zs.drop (i + 1) ++ List.replicate (i + 1 - i) 0).length = zs.length := by simp; omega
  generalize hds : zs.take i ++ zs.drop (i + 1) ++ List.replicate (i + 1 - i) 0 = ds at hs hz
  refine hs.mono ?_
  rintro e' w' ⟨rfl, q, rfl⟩
  have hheap : (Sort.putRow (Value.int .i64) (Sort.ahead w q) g 0 ds.toArray).heap[g]? = some (.cells (Sort.putCells (Value.int .i64) 0 ds.toArray arr) ty (0, 0)) := by
    simp [Sort.putRow, Sort.mapBlock, Sort.ahead, Array.getElem?_modify, hh, Sort.onCells]
  have hold : ∀ g2, g2 < w.heap.size → some g ≠ some g2 → (Sort.putRow (Value.int .i64) (Sort.ahead w q) g 0 ds.toArray).heap[g2]? = w.heap[g2]? := by
    intro g2 h2 hne
    simp only [Sort.putRow, Sort.mapBlock, Sort.ahead, Array.getElem?_modify]
    rw [if_neg (fun e => hne (by rw [e]))]
  have hput : (Sort.putCells (Value.int .i64) 0 ds.toArray arr).size = arr.size := by simp [Sort.putCells]
  have hq : Quiet w (Sort.putRow (Value.int .i64) (Sort.ahead w q) g 0 ds.toArray) := ⟨rfl, rfl, rfl, by simp [Sort.putRow, Sort.mapBlock, Sort.ahead]⟩
  have hlen : (zs.take i ++ zs.drop (i + 1)).length = zs.length - 1 := by simp; omega
  have hov : Over w (Sort.putRow (Value.int .i64) (Sort.ahead w q) g 0 ds.toArray) (.row 0 false 1 (zs.map (IV.int .i64))) (.row 1 false 1 ((zs.take i ++ zs.drop (i + 1)).map (IV.int .i64))) (some g) (some g) :=
    ⟨by omega, fun h => by omega⟩
  refine ⟨_, Γ.set 0 (.row 1 false 1 ((zs.take i ++ zs.drop (i + 1)).map (IV.int .i64))) (some g), rfl, by simp [Cx.set, hT], (Fr.refl hi (Nat.le_refl _)).step (step_set hi hq hb hg rfl hov hold (.inl rfl) ?_), ?_⟩
  · refine .inr ⟨g, _, ty, rfl, hheap, by rw [hput, List.length_map, hlen]; omega, ?_, (fun h => by cases h), k6⟩
    refine ints_cells _ 0 fun j hj => ?_
    have hjz : j < zs.length := by omega
    have hka : 0 + j < arr.size := by omega
    rw [cell_row hheap]
    simp only [Sort.putCells, Array.getElem?_mapIdx, Array.getElem?_eq_getElem hka, Option.map_some]
    have hsd : ds.toArray.size = ds.length := by simp
    rw [if_pos ⟨by omega, by omega⟩]
    have hjd : 0 + j - 0 < ds.toArray.size := by omega
    rw [getElem!_pos ds.toArray _ hjd]
    subst hds
    have e0 : 0 + j - 0 = j := by omega
    simp only [e0, List.getElem_toArray]
    rw [List.getElem_append_left hj]
  · simp only [Rep, RefO]
    have hT1 : (Γ.set 0 (.row 1 false 1 ((zs.take i ++ zs.drop (i + 1)).map (IV.int .i64))) (some g)).T = [.row 1 false 1 ((zs.take i ++ zs.drop (i + 1)).map (IV.int .i64))] := by simp [Cx.set, hT]
    have hρ1 : (Γ.set 0 (.row 1 false 1 ((zs.take i ++ zs.drop (i + 1)).map (IV.int .i64))) (some g)).ρ[0]? = some (some g) := by
      simp only [Cx.set]; rw [List.getElem?_set_self (by rw [hi.len]; exact hbl)]
    rw [hT1]
    refine ⟨by simp, rfl, fun ver' fz e l hr => ?_⟩
    simp only [List.getElem?_cons_zero, Option.some.injEq, Blk.row.injEq] at hr
    obtain ⟨rfl, rfl, rfl, rfl⟩ := hr
    refine ⟨Nat.le_refl _, fun _ => ⟨some ⟨g, 0, none⟩, c, ?_, by rw [List.length_map, hlen]; omega, hc2, .inl ⟨g, _, ty, hρ1, rfl, hheap, by rw [hput, hsz]⟩⟩⟩
    rw [List.length_map, hlen, show i + 1 - i = 1 by omega]
end
end Go.Proofs.Ytfcedalbamafiaa
