/- Whoever gives each event Told a match of its own: Match gives one to each, in plain words. It bears no condition. -/
import Derived.Test.YtgbddcdpbgaojaaAvA
namespace Go.Proofs.Ytgbddcdpbgaojaa
open Go Go.Im
set_option linter.unusedVariables false
set_option linter.unusedSimpArgs false
noncomputable section

theorem nodup_le {α : Type} [DecidableEq α] : ∀ (xs ys : List α), xs.Nodup → (∀ x ∈ xs, x ∈ ys) → xs.length ≤ ys.length
  | [], ys, _, _ => Nat.zero_le _
  | x :: xs, ys, hn, hs => by
    rw [List.nodup_cons] at hn
    have hx := hs x (List.mem_cons_self ..)
    have ih := nodup_le xs (ys.erase x) hn.2 fun y hy => by
      have hne : y ≠ x := fun e => hn.1 (e ▸ hy)
      exact (List.mem_erase_of_ne hne).2 (hs y (List.mem_cons_of_mem _ hy))
    rw [List.length_erase_of_mem hx] at ih
    have : 0 < ys.length := List.length_pos_of_mem hx
    simp only [List.length_cons]
    omega
def keyAt (es : List Ev) (g : Int) : Option Key := (es[g.toNat]?).map Ev.s
/-- Each told one of a front has a match of its own: those that were given. -/
structure Giv (es : List Ev) (i : Nat) (U : List Int) : Prop where
  nodup : U.Nodup
  each : ∀ g ∈ U, 0 ≤ g ∧ g < (i : Int) ∧ ∃ a, es[g.toNat]? = some a ∧ a.kind = 1
  all : ∀ m ∈ (ms (es.take i)).out, 0 ≤ m.2
  few : ∀ key, ((ms (es.take i)).W key).length + (U.filter fun g => decide (keyAt es g = some key)).length = (sel (es.take i) [] key).length
  cnt_ : cnt (ms (es.take i)).out = U.length
theorem giv_start (es : List Ev) : Giv es 0 [] := ⟨List.nodup_nil, (fun g h => by cases h), (fun m h => by cases h), (fun key => rfl), rfl⟩
theorem take_snoc {es : List Ev} {i : Nat} {e : Ev} (h : es[i]? = some e) : es.take (i + 1) = es.take i ++ [e] := by
  obtain ⟨h1, rfl⟩ := List.getElem?_eq_some_iff.1 h
  exact List.take_succ_eq_append_getElem h1
theorem take_len {es : List Ev} {i : Nat} {e : Ev} (h : es[i]? = some e) : (es.take i).length = i := by
  obtain ⟨h1, _⟩ := List.getElem?_eq_some_iff.1 h
  simp; omega
theorem sel_nil_snoc (pre : List Ev) (e : Ev) (key : Key) : (sel (pre ++ [e]) [] key).length = (sel pre [] key).length + (if e.kind = 1 ∧ e.s = key then 1 else 0) := by
  rw [sel_snoc pre e [] key (fun x hx => by cases hx), List.length_append]
  split <;> rfl
theorem giv_skip {es : List Ev} {i : Nat} {U : List Int} {e : Ev} (h : Giv es i U) (he : es[i]? = some e) (k3 : e.kind ≠ 3) : Giv es (i + 1) U := by
  have ht := take_snoc he
  have hm : ms (es.take (i + 1)) = mStep (es.take i).length (ms (es.take i)) e := by rw [ht, ms_snoc]
  have hout : (ms (es.take (i + 1))).out = (ms (es.take i)).out := by
    rw [hm]; unfold mStep
    by_cases k1 : e.kind = 1
    · rw [if_pos k1]
    · rw [if_neg k1, if_neg k3]
  refine ⟨h.nodup, fun g hg => ?_, by rw [hout]; exact h.all, fun key => ?_, by rw [hout]; exact h.cnt_⟩
  · obtain ⟨h1, h2, h3⟩ := h.each g hg
    exact ⟨h1, by omega, h3⟩
  · have hf := h.few key
    rw [ht, sel_nil_snoc, ← ht, hm]
    unfold mStep
    by_cases k1 : e.kind = 1
    · rw [if_pos k1]
      simp only [upd_len]
      by_cases hk : key = e.s
      · rw [if_pos hk, if_pos ⟨k1, hk.symm⟩, List.length_append]
        rw [hk] at hf ⊢
        simp only [List.length_cons, List.length_nil]
        omega
      · rw [if_neg hk, if_neg (fun h => hk h.2.symm)]; exact hf
    · rw [if_neg k1, if_neg k3, if_neg (fun h => k1 h.1)]; exact hf
theorem giv_told {es : List Ev} {i : Nat} {U : List Int} {e : Ev} {g : Int} (h : Giv es i U) (he : es[i]? = some e) (k3 : e.kind = 3) (h0 : 0 ≤ g) (h1 : g < (i : Int)) {a : Ev} (ha : es[g.toNat]? = some a) (hal : alike a e = true) (hg : g ∉ U) : Giv es (i + 1) (U ++ [g]) := by
  have ht := take_snoc he
  have htl := take_len he
  have hm : ms (es.take (i + 1)) = mStep (es.take i).length (ms (es.take i)) e := by rw [ht, ms_snoc]
  unfold alike at hal
  simp only [Bool.and_eq_true, beq_iff_eq, decide_eq_true_eq] at hal
  obtain ⟨⟨ak, _⟩, as_⟩ := hal
  have hnd : (U ++ [g]).Nodup := by
    rw [List.nodup_append]
    exact ⟨h.nodup, by simp, fun x hx y hy => by rw [List.mem_singleton] at hy; subst hy; exact fun e => hg (e ▸ hx)⟩
  have heach : ∀ x ∈ U ++ [g], 0 ≤ x ∧ x < (i : Int) ∧ ∃ a, es[x.toNat]? = some a ∧ a.kind = 1 := by
    intro x hx
    rcases List.mem_append.1 hx with hx | hx
    · exact h.each x hx
    · rw [List.mem_singleton] at hx; subst hx; exact ⟨h0, h1, a, ha, ak⟩
  -- more were sent alike than were told
  have hlt : ((U ++ [g]).filter fun x => decide (keyAt es x = some e.t)).length ≤ (sel (es.take i) [] e.t).length := by
    have hinj : (((U ++ [g]).filter fun x => decide (keyAt es x = some e.t)).map Int.toNat).Nodup := by
      have hf : ((U ++ [g]).filter fun x => decide (keyAt es x = some e.t)).Nodup := List.Pairwise.filter _ hnd
      refine List.Pairwise.map _ ?_ (List.Pairwise.imp_of_mem (S := fun x y => x ≠ y ∧ 0 ≤ x ∧ 0 ≤ y) (fun hx hy hne => ⟨hne, (heach _ (List.mem_filter.1 hx).1).1, (heach _ (List.mem_filter.1 hy).1).1⟩) hf)
      intro x y hxy
      omega
    have := nodup_le _ (sel (es.take i) [] e.t) hinj (fun k hk => by
      obtain ⟨x, hx, rfl⟩ := List.mem_map.1 hk
      obtain ⟨hx1, hx2⟩ := List.mem_filter.1 hx
      obtain ⟨q0, q1, b, hb, bk⟩ := heach x hx1
      have hs : b.s = e.t := by
        have := of_decide_eq_true hx2
        unfold keyAt at this
        rw [hb] at this
        simpa using this
      unfold sel
      refine List.mem_filter.2 ⟨List.mem_range.2 (by rw [htl]; omega), ?_⟩
      unfold free
      rw [List.getElem?_take, if_pos (by omega), hb]
      simp only [bk, hs]
      rfl)
    rwa [List.length_map] at this
  have hkg : keyAt es g = some e.t := by unfold keyAt; rw [ha]; simp [as_]
  rw [List.filter_append, List.length_append] at hlt
  have h1' : ([g].filter fun x => decide (keyAt es x = some e.t)).length = 1 := by simp [List.filter_cons, hkg]
  have hf := h.few e.t
  have hw : (ms (es.take i)).W e.t ≠ [] := by
    intro hw
    rw [hw] at hf
    simp only [List.length_nil] at hf
    omega
  have hp := hd_nat (s := ms (es.take i)) (fun key z zs h => wait_nat h) hw
  have htl' := tl_len hw
  have hout : (ms (es.take (i + 1))).out = (ms (es.take i)).out ++ [(((es.take i).length : Int), ((ms (es.take i)).W e.t).headD 0)] := by
    rw [hm]; unfold mStep
    rw [if_neg (by omega), if_pos k3, if_neg hw]
  refine ⟨hnd, fun x hx => ?_, ?_, fun key => ?_, ?_⟩
  · obtain ⟨q1, q2, q3⟩ := heach x hx
    exact ⟨q1, by omega, q3⟩
  · rw [hout]
    intro m hm'
    rcases List.mem_append.1 hm' with hm' | hm'
    · exact h.all m hm'
    · rw [List.mem_singleton] at hm'; subst hm'; exact hp
  · have hfk := h.few key
    rw [ht, sel_nil_snoc, ← ht, hm, if_neg (fun h => by omega), List.filter_append, List.length_append]
    unfold mStep
    rw [if_neg (by omega), if_pos k3, if_neg hw]
    simp only [upd_len]
    by_cases hk : key = e.t
    · rw [if_pos hk]
      subst hk
      rw [h1']
      omega
    · rw [if_neg hk]
      have : ([g].filter fun x => decide (keyAt es x = some key)).length = 0 := by
        have : ¬ (keyAt es g = some key) := fun h => hk (Option.some.inj (hkg.symm.trans h)).symm
        simp [List.filter_cons, this]
      rw [this]
      omega
  · rw [hout, cnt_snoc, List.length_append]
    unfold cntS
    rw [if_pos hp, h.cnt_]
    rfl
/-- With all told ones given, each has a match. -/
theorem giv_all {es : List Ev} {U : List Int} (h : Giv es es.length U) : (∀ m ∈ mat es, 0 ≤ m.2) ∧ cnt (mat es) = U.length := by
  have h1 := h.all
  have h2 := h.cnt_
  rw [List.take_length] at h1 h2
  exact ⟨h1, h2⟩
end
end Go.Proofs.Ytgbddcdpbgaojaa
