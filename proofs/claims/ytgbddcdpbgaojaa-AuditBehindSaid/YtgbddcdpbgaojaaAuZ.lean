/- AuditMore: what is proved of the given program. It bears no condition. -/
import Derived.Test.YtgbddcdpbgaojaaAuY
namespace Go.Proofs.Ytgbddcdpbgaojaa
open Go Go.Im
set_option linter.unusedVariables false
set_option linter.unusedSimpArgs false
noncomputable section

theorem cnt_snoc (out : List (Int × Int)) (m : Int × Int) : cnt (out ++ [m]) = cntS (cnt out) m := by unfold cnt; rw [List.foldl_append]; rfl
theorem upd_len (W : Wt) (k : Key) (v : List Int) (x : Key) : (upd W k v x).length = if x = k then v.length else (W x).length := by
  unfold upd
  split <;> rfl
theorem wait_nat {l : List Ev} {key : Key} {z : Int} {zs : List Int} (h : (ms l).W key = z :: zs) : 0 ≤ z := by
  rw [(good_ms l).wait] at h
  cases hs : sel l ((ms l).out.map (·.2)) key with
  | nil => rw [hs] at h; cases h
  | cons a b => rw [hs, List.map_cons] at h; have := (List.cons.inj h).1; omega
def Sim (x : Ev) (s s' : MS) : Prop := (cnt s'.out = cnt s.out ∧ ∀ key, (s'.W key).length = (s.W key).length + (if key = x.s then 1 else 0)) ∨ (cnt s'.out = cnt s.out + 1 ∧ ∀ key, (s'.W key).length = (s.W key).length)
theorem hd_nat {s : MS} (hs : ∀ key z zs, s.W key = z :: zs → 0 ≤ z) {key : Key} (h : s.W key ≠ []) : 0 ≤ (s.W key).headD 0 := by
  cases hw : s.W key with
  | nil => exact absurd hw h
  | cons z zs => exact hs key z zs hw
theorem tl_len {l : List Int} (h : l ≠ []) : l.tail.length + 1 = l.length := by
  cases l with
  | nil => exact absurd rfl h
  | cons => rfl
theorem sim_step {x : Ev} {s s' : MS} (hs : ∀ key z zs, s.W key = z :: zs → 0 ≤ z) (hs' : ∀ key z zs, s'.W key = z :: zs → 0 ≤ z) (h : Sim x s s') (i j : Nat) (e : Ev) : Sim x (mStep i s e) (mStep j s' e) := by
  unfold mStep
  by_cases k1 : e.kind = 1
  · rw [if_pos k1, if_pos k1]
    rcases h with ⟨h1, h2⟩ | ⟨h1, h2⟩
    · refine .inl ⟨h1, fun key => ?_⟩
      simp only [upd_len]
      have := h2 key
      have h3 := h2 e.s
      by_cases hk : key = e.s
      · rw [if_pos hk, if_pos hk, List.length_append, List.length_append, h3, hk]
        simp only [List.length_cons, List.length_nil]
        omega
      · rw [if_neg hk, if_neg hk]; exact this
    · refine .inr ⟨h1, fun key => ?_⟩
      simp only [upd_len]
      have := h2 key
      have h3 := h2 e.s
      by_cases hk : key = e.s
      · rw [if_pos hk, if_pos hk, List.length_append, List.length_append, h3]
        rfl
      · rw [if_neg hk, if_neg hk]; exact this
  · rw [if_neg k1, if_neg k1]
    by_cases k3 : e.kind = 3
    · rw [if_pos k3, if_pos k3]
      have none : ∀ (n : Nat) (i : Nat), cntS n ((i : Int), -1) = n := fun n i => by unfold cntS; rw [if_neg (by simp)]
      by_cases w : s.W e.t = []
      · rw [if_pos w]
        have hl : (s.W e.t).length = 0 := by rw [w]; rfl
        rcases h with ⟨h1, h2⟩ | ⟨h1, h2⟩
        · by_cases w' : s'.W e.t = []
          · rw [if_pos w']
            refine .inl ⟨?_, h2⟩
            simp only [cnt_snoc, none]
            exact h1
          · rw [if_neg w']
            have hp := hd_nat hs' w'
            have ht := tl_len w'
            have hx : e.t = x.s := by
              have := h2 e.t
              by_cases hx : e.t = x.s
              · exact hx
              · rw [if_neg hx] at this; omega
            refine .inr ⟨?_, fun key => ?_⟩
            · simp only [cnt_snoc, none]
              unfold cntS
              rw [if_pos hp, h1]
            · simp only [upd_len]
              have hk := h2 key
              have h3 := h2 e.t
              by_cases hkt : key = e.t
              · rw [if_pos hkt, hkt]
                rw [if_pos hx] at h3
                omega
              · rw [if_neg hkt]
                rw [if_neg (fun h => hkt (h.trans hx.symm))] at hk
                exact hk
        · have w' : s'.W e.t = [] := List.length_eq_zero_iff.1 (by rw [h2, hl])
          rw [if_pos w']
          refine .inr ⟨?_, h2⟩
          simp only [cnt_snoc, none]
          exact h1
      · have hl := tl_len w
        have hp := hd_nat hs w
        have w' : s'.W e.t ≠ [] := by
          intro w'
          have h0 : (s'.W e.t).length = 0 := by rw [w']; rfl
          rcases h with ⟨_, h2⟩ | ⟨_, h2⟩
          · have := h2 e.t; omega
          · have := h2 e.t; omega
        have hl' := tl_len w'
        have hp' := hd_nat hs' w'
        rw [if_neg w, if_neg w']
        have c1 : ∀ (n : Nat) (i : Nat), cntS n ((i : Int), (s.W e.t).headD 0) = n + 1 := fun n i => by unfold cntS; rw [if_pos hp]
        have c2 : ∀ (n : Nat) (i : Nat), cntS n ((i : Int), (s'.W e.t).headD 0) = n + 1 := fun n i => by unfold cntS; rw [if_pos hp']
        rcases h with ⟨h1, h2⟩ | ⟨h1, h2⟩
        · refine .inl ⟨by simp only [cnt_snoc, c1, c2]; omega, fun key => ?_⟩
          simp only [upd_len]
          have hk := h2 key
          have h3 := h2 e.t
          by_cases hkt : key = e.t
          · rw [if_pos hkt, if_pos hkt, hkt]; omega
          · rw [if_neg hkt, if_neg hkt]; exact hk
        · refine .inr ⟨by simp only [cnt_snoc, c1, c2]; omega, fun key => ?_⟩
          simp only [upd_len]
          have hk := h2 key
          have h3 := h2 e.t
          by_cases hkt : key = e.t
          · rw [if_pos hkt, if_pos hkt]; omega
          · rw [if_neg hkt, if_neg hkt]; exact hk
    · rw [if_neg k3, if_neg k3]
      exact h
theorem sim_ms {x : Ev} (hx : x.kind = 1) : ∀ l : List Ev, Sim x (ms l) (ms (x :: l)) := snoc_ind (by
    refine .inl ?_
    have e : ms [x] = mStep 0 (ms []) x := ms_snoc [] x
    rw [e]
    unfold mStep
    rw [if_pos hx]
    refine ⟨rfl, fun key => ?_⟩
    simp only [upd_len]
    split <;> rfl) fun l e ih => by
  have e1 : ms (x :: (l ++ [e])) = mStep (x :: l).length (ms (x :: l)) e := ms_snoc (x :: l) e
  rw [ms_snoc, e1]
  exact sim_step (fun key z zs h => wait_nat h) (fun key z zs h => wait_nat h) ih _ _ e
theorem more_cnt {x : Ev} (hx : x.kind = 1) (l : List Ev) : cnt (mat l) ≤ cnt (mat (x :: l)) ∧ cnt (mat (x :: l)) ≤ cnt (mat l) + 1 := by
  unfold mat
  rcases sim_ms hx l with ⟨h, _⟩ | ⟨h, _⟩ <;> omega
theorem cnt_le : ∀ (out : List (Int × Int)) (n : Nat), out.foldl cntS n ≤ n + out.length
  | [], n => by simp
  | m :: out, n => by
    have := cnt_le out (cntS n m)
    have h : cntS n m ≤ n + 1 := by unfold cntS; split <;> omega
    rw [List.foldl_cons, List.length_cons]
    omega
abbrev tabW' : FuncId → Option SpecF := tabW cE gLong cO gT
theorem tabW_ok : ∀ f F, tabW' f = some F → Known Try.prog hint f F := tab_cons long_known (tab_cons alive_known (tab_cons matched_known tab_nil))
theorem auditMore_run (xs : List IV) (hl : xs.length = Try.f7.params.size) (h : ∀ (i : Nat) t, Try.f7.params[i]? = some t → ∃ x, xs[i]? = some x ∧ ArgT Try.prog t x) :
    ∃ k, acall Try.prog hint (ovrOf tabW') k 7 xs [] = some (.bool true, []) := by
  rw [Try.params7] at hl h
  obtain ⟨x0, g0, a0⟩ := h 0 22 rfl
  obtain ⟨x1, g1, a1⟩ := h 1 54 rfl
  match xs, hl with
  | [y0, y1], _ =>
    simp only [List.getElem?_cons_zero, List.getElem?_cons_succ, Option.some.injEq] at g0 g1
    subst g0 g1
    obtain ⟨nl, cl, l, rfl, ha, hll⟩ := arg22 a0
    have hx := arg54 a1
    obtain ⟨nl', cl', hxe, hh, hp, hb⟩ := isEv_iff hx
    generalize evOf y1 = e at *
    subst hxe
    refine law_run (n := 30) loops_none ((mo_tree cE gLong cO gT nl nl' cl cl' l (u8s e.bytes) e.kind e.host e.peer e.at_).trans (bif_step ha ?_))
    cases hlong : gLong l
    · have hlen := long_len hlong
      rw [List.length_map] at hlen
      rw [cond_false]
      by_cases hb2 : ((u8s e.bytes).length : Int) > 1000
      · exact bif_step (decide_eq_true hb2) rfl
      refine bif_stepF (decide_eq_false hb2) (bif_step (decide_eq_true ?_) (bif_step (cO_of ha (by omega)) ?_))
      · rw [roomB_nat, maxLen_val]
        simp only [List.length_append, List.length_cons, List.length_nil]
        omega
      · have hall : ([] ++ [IV.agg [.int .i64 1, .int .u32 e.host, .int .u32 e.peer, .int .i64 e.at_, .fsl nl' cl' 1 (u8s e.bytes)]] ++ l).all isEv = true := by
          rw [List.nil_append, List.all_append, ha, Bool.and_true, List.all_cons, List.all_nil, Bool.and_true]
          exact isEv_of (e := ⟨1, e.host, e.peer, e.at_, e.bytes⟩) ⟨hh, hp, hb⟩ nl' cl'
        refine bif_step (cO_of hall (by simp; omega)) ?_
        have hev : evs ([] ++ [IV.agg [.int .i64 1, .int .u32 e.host, .int .u32 e.peer, .int .i64 e.at_, .fsl nl' cl' 1 (u8s e.bytes)]] ++ l) = (⟨1, e.host, e.peer, e.at_, e.bytes⟩ : Ev) :: evs l := by
          rw [List.nil_append, List.singleton_append, evs, List.map_cons]
          congr 1
          exact evOf_agg (e := ⟨1, e.host, e.peer, e.at_, e.bytes⟩) nl' cl'
        have hm := more_cnt (x := ⟨1, e.host, e.peer, e.at_, e.bytes⟩) rfl (evs l)
        have hcl := cnt_le (mat (evs l)) 0
        have hml := mat_len (evs l)
        rw [List.length_map] at hml
        have hcl' : cnt (mat (evs l)) ≤ 1000 := by unfold cnt; omega
        unfold gT
        rw [hev, wadd1 (by omega), decide_eq_true (by omega), decide_eq_true (by omega)]
        rfl
    · exact bif_step rfl rfl
end
end Go.Proofs.Ytgbddcdpbgaojaa
