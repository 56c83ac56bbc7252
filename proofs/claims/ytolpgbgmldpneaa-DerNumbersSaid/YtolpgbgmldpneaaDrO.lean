/- bytes.Compare, by the model's own entry. It bears no condition. -/
import Derived.Test.YtolpgbgmldpneaaDrN
import Derived.Lib.BytesEntry
import Derived.WalkKit
namespace Go.Proofs.Ytolpgbgmldpneaa
open Go Go.Im Go.RowKit
set_option linter.unusedVariables false
set_option linter.unusedSimpArgs false
set_option maxRecDepth 20000
noncomputable section

/-- A slice's bytes, as they lie. -/
def BytesAt (w : World) (A : Option Addr) (b : List UInt8) : Prop := b = [] ∨ ∃ g o, A = some ⟨g, o, none⟩ ∧ ∀ i (h : i < b.length), w.cell? ⟨g, o + i, none⟩ = some (.int .u8 (b[i].toNat : Int))
theorem bytesOf_map (b : List UInt8) : Lib.bytesOf (b.map fun (c : UInt8) => (c.toNat : Int)) = b := by
  unfold Lib.bytesOf
  rw [List.map_map]
  exact (List.map_congr_left fun x _ => by simp).trans (List.map_id b)
theorem run_bytes {w : World} {A : Option Addr} {b : List UInt8} {c : Nat} (h : BytesAt w A b) : (Extern.Bytes.bytesOf (.slice A b.length c)).run Try.prog w = .ok ⟨b.toArray⟩ w := by
  rcases h with rfl | ⟨g, o, rfl, h⟩
  · cases A with
    | none => rfl
    | some a => rfl
  · have := Lib.run_loadBytesX (P := Try.prog) w (b.map fun (c : UInt8) => (c.toNat : Int)) ⟨g, o, none⟩ .empty (fun j x hj => by
      rw [List.getElem?_map] at hj
      have hjl : j < b.length := by
        cases hb : b[j]? with
        | none => rw [hb] at hj; cases hj
        | some y => exact (List.getElem?_eq_some_iff.1 hb).1
      rw [List.getElem?_eq_getElem hjl] at hj
      simp only [Option.map_some, Option.some.injEq] at hj
      subst hj
      have e : (⟨g, o, none⟩ : Addr).add j = ⟨g, o + j, none⟩ := by
        unfold Addr.add
        by_cases hj0 : j = 0
        · subst hj0; simp
        · simp [hj0]
      rw [e]
      exact h j hjl)
    rw [List.length_map, bytesOf_map] at this
    show (Extern.Bytes.loadBytes ⟨g, o, none⟩ b.length .empty).run Try.prog w = _
    rw [this]
    congr 1
    simp
theorem run_cmp {w : World} {A1 A2 : Option Addr} {a b : List UInt8} {c1 c2 : Nat} (h1 : BytesAt w A1 a) (h2 : BytesAt w A2 b) : (Extern.BytealgCompare.compare #[.slice A1 a.length c1, .slice A2 b.length c2]).run Try.prog w = .ok (.int .i64 (Lib.compareBytes a b)) w := by
  change Sem.run Try.prog (do pure (goInt (Extern.BytealgCompare.cmp (← Extern.Bytes.bytesOf (.slice A1 a.length c1)) (← Extern.Bytes.bytesOf (.slice A2 b.length c2))))) w = _
  simp only [Sem.run_bind, run_bytes h1, run_bytes h2, Result.andThen, Sem.run_pure]
  rw [Lib.cmp_eq]
  rfl
set_option maxHeartbeats 1000000 in
theorem cmp_calls {w : World} {A1 A2 : Option Addr} {a b : List UInt8} {c1 c2 : Nat} (h1 : BytesAt w A1 a) (h2 : BytesAt w A2 b) :
    Calls Try.prog 60 #[.slice A1 a.length c1, .slice A2 b.length c2] w fun e w' => e = .returned (.int .i64 (Lib.compareBytes a b)) ∧ w' = w := by
  go_enter Try.func60, Try.ntmps60
  go_wp2
  rw [run_callFunc_extern Try.func63 (by kernel_rfl) (by kernel_rfl) (by kernel_rfl) (e := Extern.BytealgCompare.compare) (by kernel_rfl), run_cmp h1 h2]
  simp only [Result.andThen]
  rw [Oper.upon_value]
  go_wp2
  go_ret
  exact ⟨rfl, rfl⟩
/-! ### The contract -/
def cmpP (c : Nat → List IV → Nat → List IV → Bool) (g : List IV → List IV → Int) : SpecF := fun us T => match us, T with
  | [.fsl n1 c1 z1 a, .fsl n2 c2 z2 b], [] => [(c z1 a z2 b, .int .i64 (g a b), [])]
  | _, _ => []
def cCmp (z1 : Nat) (a : List IV) (z2 : Nat) (b : List IV) : Bool := (decide (z1 = 1 ∨ a.length = 0) && okB a) && (decide (z2 = 1 ∨ b.length = 0) && okB b)
def gCmp (a b : List IV) : Int := Lib.compareBytes (toBytes a) (toBytes b)
theorem rep_at1 {ok : Nat → Prop} {w : World} {g : Nat} : ∀ (l : List IV) (o : Nat), RepEs ok w 1 g o l → ∀ k (h : k < l.length), RepEl ok w 1 g (o + k) l[k]
  | [], _, _, k, h => by simp at h
  | x :: l, o, hr, k, h => by
    rw [RepEs_cons] at hr
    cases k with
    | zero => simpa using hr.1
    | succ k =>
      have ih := rep_at1 l (o + 1) hr.2 k (by simpa using h)
      rw [show o + (k + 1) = o + 1 + k by omega]
      exact ih
theorem bytes_at {Γ : Cx} {w : World} {nl : Option Bool} {cl : Bool} {z : Nat} {b : List UInt8} {v : Value} (hz : z = 1 ∨ b = []) (h : Rep Γ w (.fsl nl cl z (u8s b)) v) : ∃ A c, v = .slice A b.length c ∧ BytesAt w A b := by
  simp only [Rep, RepC] at h
  obtain ⟨A, c, rfl, _, _, _, _, hl⟩ := h
  refine ⟨A, c, by rw [u8s_len], ?_⟩
  rcases hl with hl | ⟨g, o, rfl, hok, hr⟩
  · left
    cases b with
    | nil => rfl
    | cons x r => cases hl
  · rcases hz with rfl | rfl
    · right
      refine ⟨g, o, rfl, fun i hi => ?_⟩
      have := rep_at1 _ _ hr i (by rw [u8s_len]; exact hi)
      have hx : (u8s b)[i]'(by rw [u8s_len]; exact hi) = .int .u8 ((b[i]).toNat : Int) := by simp [u8s]
      rw [hx] at this
      obtain ⟨_, h2⟩ := this
      simp only [IV.cells, RepCs, RepC, and_true] at h2
      obtain ⟨_, v, h3, rfl⟩ := h2
      exact h3
    · exact .inl rfl
theorem cmp_known : Known Try.prog hint 60 (cmpP cCmp gCmp) := by
  intro f xs T r T1 hr
  simp only at hr
  split at hr
  case isFalse => cases hr
  rename_i hf
  subst hf
  refine ⟨⟨_, Try.func60, by decide, rfl⟩, ?_⟩
  intro Γ w vs hi hT hgl hrep hng
  obtain ⟨⟨t, v, T2⟩, hF, e⟩ := Option.map_eq_some_iff.1 hr
  cases e
  have ht := List.find?_some hF
  have hm := List.mem_of_find?_eq_some hF
  simp only at ht
  subst ht
  unfold cmpP at hm
  split at hm
  case h_2 => cases hm
  rename_i n1 c1 z1 a n2 c2 z2 b
  simp only [List.mem_cons, List.not_mem_nil, or_false, Prod.mk.injEq, Bool.true_eq, cCmp, Bool.and_eq_true, decide_eq_true_eq] at hm
  obtain ⟨⟨⟨h1, h2⟩, h3, h4⟩, rfl, rfl⟩ := hm
  obtain ⟨a, rfl, ha⟩ := okz h1 h2
  obtain ⟨b, rfl, hb⟩ := okz h3 h4
  simp only [RepL] at hrep
  obtain ⟨v1, us, rfl, hv1, v2, us2, rfl, hv2, rfl⟩ := hrep
  obtain ⟨A1, k1, rfl, q1⟩ := bytes_at ha hv1
  obtain ⟨A2, k2, rfl, q2⟩ := bytes_at hb hv2
  refine (cmp_calls q1 q2).mono ?_
  rintro e' w' ⟨rfl, rfl⟩
  refine ⟨_, Γ, rfl, hT, Fr.refl hi (Nat.zero_le _), ?_⟩
  unfold gCmp
  rw [toBytes_u8s, toBytes_u8s]
  simp only [Rep]
end
end Go.Proofs.Ytolpgbgmldpneaa
