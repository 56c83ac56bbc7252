/- Values' bytes: the document's bytes. It bears no condition. -/
import Derived.Test.YtolpgbgmldpneaaDrL
namespace Go.Proofs.Ytolpgbgmldpneaa
open Go Go.Im
set_option linter.unusedVariables false
set_option linter.unusedSimpArgs false
set_option maxRecDepth 20000
noncomputable section

theorem nd_open {d : Nat} {t : Int} {n1 : Option Bool} {c1 : Bool} {z1 : Nat} {bs : List IV} {n2 : Option Bool} {c2 : Bool} {z2 : Nat} {ks : List IV} (h : cD (d + 1) (ndV t n1 c1 z1 bs n2 c2 z2 ks) = true) :
    ∃ N : Nd, ndOf (ndV t n1 c1 z1 bs n2 c2 z2 ks) = N ∧ t = N.tag ∧ bs = u8s N.bytes ∧ N.kids = ks.map ndOf ∧ (∀ k ∈ ks, cD d k = true ∧ okNd k = true) ∧ (z1 = 1 ∨ N.bytes = []) ∧ (z2 = 3 ∨ ks = []) ∧ N.bytes.length + szs (ks.map ndOf) ≤ 90000000 + 10000000 - 8 ∧ ks.length ≤ szs (ks.map ndOf) := by
  have h3' := h
  unfold cD cN at h3'
  simp only [Bool.and_eq_true, decide_eq_true_eq] at h3'
  obtain ⟨⟨h4, h5⟩, _⟩ := h3'
  obtain ⟨m1, e1, y1, m2, e2, y2, ks', hx, hk, ho, hz1, hz2⟩ := okNd_iff h4
  have hkk := fun k hm => cD_kid h (ks := ks') hk ho (k := k) hm
  generalize hN : ndOf (ndV t n1 c1 z1 bs n2 c2 z2 ks) = N at *
  simp only [ndV, IV.agg.injEq, List.cons.injEq, IV.int.injEq, IV.fsl.injEq, true_and, and_true] at hx
  obtain ⟨rfl, ⟨rfl, rfl, rfl, rfl⟩, rfl, rfl, rfl, rfl⟩ := hx
  have hsz := sz_mk N
  rw [hk] at hsz
  refine ⟨N, rfl, rfl, rfl, hk, fun k hm => ⟨hkk k hm, List.all_eq_true.1 ho k hm⟩, hz1, hz2, by omega, ?_⟩
  clear hsz hkk hk ho hz2 h hN h4
  induction ks with
  | nil => exact Nat.zero_le _
  | cons k ks ih =>
    have : 8 ≤ (ndOf k).sz := by rw [sz_mk]; omega
    rw [List.map_cons]
    show ks.length + 1 ≤ (ndOf k).sz + szs (ks.map ndOf)
    omega
theorem no_d0 {x : IV} (h : cD 0 x = true) : False := by
  unfold cD at h
  simp only [Bool.and_eq_true, decide_eq_true_eq] at h
  have h2 := h.2
  rw [dp_mk] at h2
  omega
theorem put_known : Known Try.prog hint 33 (putP (fun zo o x => decide ((zo = 1 ∨ o.length = 0) ∧ o.length ≤ 100000000) && cN x) gPut) := known_each fun xs T v T1 h => by
  unfold putP at h
  split at h
  case h_2 => cases h
  rename_i no zo o t n1 c1 z1 bs n2 c2 z2 ks
  simp only [List.mem_cons, List.not_mem_nil, or_false, Prod.mk.injEq, Bool.true_eq, Bool.and_eq_true] at h
  obtain ⟨⟨h1, h2⟩, rfl, rfl⟩ := h
  refine ⟨_, put_d (ndOf (ndV t n1 c1 z1 bs n2 c2 z2 ks)).dp, ?_⟩
  unfold putP cPut
  simp only [h1, cD_self h2, Bool.and_self]

end
end Go.Proofs.Ytolpgbgmldpneaa
