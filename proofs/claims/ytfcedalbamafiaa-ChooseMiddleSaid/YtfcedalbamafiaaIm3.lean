/- An ideal machine for the model's programs: its values are trees, its operations are told by plain functions; what it answers the model's machine does (part 3). It bears no condition. -/
import Derived.Test.YtfcedalbamafiaaIm2
import GoSem.ClaimChange
import Derived.DataReads
import Derived.ChangeArms
import Derived.OpenShut
import Derived.SizedLaws
import Derived.Below
import Derived.WideShapes
import Derived.ChangeSame
import Derived.ChangeOld
import Derived.WideKeyArgs
import Derived.RowKit
import Derived.Carry
import Derived.LaidMore
import Derived.MakeChecks
import Derived.FnData
namespace Go.Im
open Go
set_option linter.unusedVariables false
set_option linter.unusedSimpArgs false
set_option linter.unnecessarySimpa false
set_option linter.unusedSectionVars false
section
variable {P : Program} {H : Hint} {call : CallF} {ops : List Oper} {ch : List (Nat × Bool)} {tm tm' : List IV} {T T2 : List Blk}

mutual
theorem lend_same : ∀ (x y : IV) (bs : List Nat), lend (fun _ => none) T x = some (y, bs) → Same T T2 bs → lend (fun _ => none) T2 x = some (y, bs)
  | .undef, _, _, h, _ => by simp [lend] at h
  | .int _ _, _, _, h, _ => h
  | .bool _, _, _, h, _ => h
  | .str _, _, _, h, _ => h
  | .nilp, _, _, h, _ => h
  | .nilf, _, _, h, _ => h
  | .nili, _, _, h, _ => h
  | .fsl .., _, _, h, _ => h
  | .fp _, _, _, h, _ => h
  | .gd .., _, _, h, _ => by simp [lend] at h
  | .agg l, _, _, h, hs => by
    simp only [lend] at h ⊢
    obtain ⟨⟨ys, bs⟩, h1, h2⟩ := Option.map_eq_some_iff.1 h
    cases h2
    rw [lendL_same l ys _ h1 hs]
    rfl
  | .tup l, _, _, h, hs => by
    simp only [lend] at h ⊢
    obtain ⟨⟨ys, bs⟩, h1, h2⟩ := Option.map_eq_some_iff.1 h
    cases h2
    rw [lendL_same l ys _ h1 hs]
    rfl
  | .fn g l, _, _, h, hs => by
    simp only [lend] at h ⊢
    obtain ⟨⟨ys, bs⟩, h1, h2⟩ := Option.map_eq_some_iff.1 h
    cases h2
    rw [lendL_same l ys _ h1 hs]
    rfl
  | .osl b ver, _, _, h, hs => by
    simp only [lend] at h ⊢
    split at h
    · rename_i e l hrow
      cases h
      rw [rowOf_same (hs b (by simp)), hrow]
    · cases h
  | .vsl b ver lo n, _, _, h, hs => by
    simp only [lend] at h ⊢
    split at h
    · rename_i e l hrow
      cases h
      rw [rowOf_same (hs b (by simp)), hrow]
    · cases h
  | .vsv b lo n, _, _, h, hs => by
    simp only [lend] at h ⊢
    split at h
    · rename_i fz cs hb
      split at h
      · rename_i hc
        cases h
        rw [hs b (by simp), hb]
        simp only [hc]
      · cases h
    · cases h
  | .ep .., _, _, h, _ => by simp [lend] at h
  | .ptr .., _, _, h, _ => by simp [lend] at h
theorem lendL_same : ∀ (x y : List IV) (bs : List Nat), lendL (fun _ => none) T x = some (y, bs) → Same T T2 bs → lendL (fun _ => none) T2 x = some (y, bs)
  | [], _, _, h, _ => h
  | x :: xs, _, _, h, hs => by
    simp only [lendL] at h ⊢
    split at h
    · rename_i y p ys q h1 h2
      cases h
      rw [lend_same x y p h1 (fun b hb => hs b (List.mem_append_left _ hb)), lendL_same xs ys q h2 (fun b hb => hs b (List.mem_append_right _ hb))]
    · cases h
end

theorem reach_nil {T : List Blk} : ∀ n, reach T n [] = []
  | 0 => rfl
  | n + 1 => by simp only [reach, List.flatMap_nil, addNew]; exact reach_nil n

theorem handed_nil {mv : List Bool} {as : List IV} (h : handed T mv as = []) : handed T2 mv as = [] := by
  unfold handed at h ⊢
  generalize addNew [] _ = L at h ⊢
  have hp := reach_prefix (T := T) 3 L
  rw [h] at hp
  rw [List.prefix_nil.1 hp]
  exact reach_nil 3

theorem reads_doCall {f : FuncId} {as : List IV} : Reads fun T => doCall H call T f as := by
  intro T T2 v T' fp h hs
  simp only at h ⊢
  have hcl : ∀ (as' : List IV) (lent : List Nat) (r : IV) (T1 : List Blk) (r' : IV) (fr : List Nat), handed T (H.mv f) as = [] → lendL (fun _ => none) T as = some (as', lent) → Same T T2 lent → call f as' [] = some (r, T1) → H.keep f = false → frz T1 r = some (r', fr) →
      doCall H call T2 f as = (match scalar r, lent with
        | true, _ => some (r', T2, .rd lent)
        | false, [] => some (r', T2, .rd [])
        | false, _ => some (r', shut T2 lent, .ef lent)) := by
    intro as' lent r T1 r' fr h1 h2 h3 h4 h5 h6
    unfold doCall
    simp only [handed_nil h1, lendL_same as as' lent h2 h3, h4, h5, h6]
    cases scalar r <;> cases lent <;> rfl
  unfold doCall at h
  split at h
  · rename_i hh
    split at h
    · cases h
    · rename_i as' lent hl
      split at h
      · cases h
      · rename_i r T1 hc
        split at h
        · rename_i hk
          split at h
          · cases h
          · rename_i r' fr hf
            by_cases hsc : scalar r = true
            · rw [hsc] at h
              cases h
              rw [hcl as' _ r T1 _ fr hh hl hs hc hk hf, hsc]
            · have hsc : scalar r = false := by simpa using hsc
              rw [hsc] at h
              cases lent with
              | nil =>
                cases h
                rw [hcl as' _ r T1 _ fr hh hl hs hc hk hf, hsc]
              | cons => cases h
        · split at h <;> cases h
  · repeat' split at h
    all_goals cases h

theorem reads_conv {src dst : TypeId} {x : IV} : Reads fun T => aconv P T src dst x := by
  intro T T2 v T' fp h hs
  simp only at h ⊢
  unfold aconv at h ⊢
  split at h
  · exact reads_const _ _ T T2 v T' fp h hs
  · exact reads_const _ _ T T2 v T' fp h hs
  · split at h
    · obtain ⟨y, e1, e2⟩ := rdv_some h
      cases e2
      rw [slc_same hs, e1]
      rfl
    · cases h
  · split at h
    · exact reads_const _ _ T T2 v T' fp h hs
    · cases h
  · cases h

theorem reads_append {ts : List TypeId} {x y : IV} : Reads fun T => aappend P T ts x y := by
  refine reads_ef fun T r h => ?_
  try simp only at h
  unfold aappend at h
  repeat' split at h
  all_goals first
    | (cases h; done)
    | (cases h; exact ⟨_, rfl⟩)

theorem reads_builtin {b : Builtin} {ts : List TypeId} {vs : List IV} : Reads fun T => abuiltin P T b ts vs := by
  intro T T2 v T' fp h hs
  simp only at h ⊢
  unfold abuiltin at h ⊢
  split at h
  · split at h
    · rename_i x
      split at h
      · split at h
        · split at h
          · exact reads_const _ _ T T2 v T' fp h hs
          · cases h
        · obtain ⟨y, e1, e2⟩ := rdv_some h
          cases e2
          rw [slcLen_same hs, e1]
          rfl
        · exact reads_const _ _ T T2 v T' fp h hs
        · cases h
      · cases h
    · cases h
  · split at h
    · exact reads_append T T2 v T' fp h hs
    · cases h
  · split at h
    · exact reads_const _ _ T T2 v T' fp h hs
    · cases h
  · split at h
    · exact reads_const _ _ T T2 v T' fp h hs
    · cases h
  · cases h

theorem ev_T {s : St} {x : Operand} : ev H ch s x = ev H ch { tm := s.tm, bx := T } x := by cases x <;> rfl
theorem ev_T2 {x : Operand} : ev H ch { tm := tm, bx := T2 } x = ev H ch { tm := tm, bx := T } x := by cases x <;> rfl
theorem evs_T2 : ∀ {xs : List Operand}, evs H ch { tm := tm, bx := T2 } xs = evs H ch { tm := tm, bx := T } xs
  | [] => rfl
  | x :: xs => by
    simp only [evs]
    rw [ev_T2 (T := T), evs_T2]
theorem optEv_T2 {x : Option Operand} : optEv H ch { tm := tm, bx := T2 } x = optEv H ch { tm := tm, bx := T } x := by
  cases x with
  | none => rfl
  | some x => simp only [optEv]; rw [ev_T2 (T := T)]

theorem aop_reads {o : Oper} : Reads fun T => aop P H call ops ch o { tm := tm, bx := T } := by
  have k1 : ∀ (f : List Blk → IV → R) (x : Operand), (∀ y, Reads fun T => f T y) → Reads fun T => (ev H ch { tm := tm, bx := T } x).bind (f T) := by
    intro f x hf
    have e : (fun T => (ev H ch { tm := tm, bx := T } x).bind (f T)) = fun T => (ev H ch { tm := tm, bx := [] } x).bind (f T) := by
      funext T
      rw [ev_T2 (T := [])]
    rw [e]
    exact reads_bind hf
  unfold aop
  cases ho : o.op with
  | move x => simp only [oMove]; intro T T2 v T' fp h hs; simp only at h ⊢; simp only [ev_T2 (T := T) (T2 := T2), evs_T2 (T := T) (T2 := T2), optEv_T2 (T := T) (T2 := T2)]; exact reads_const _ _ T T2 v T' fp h hs
  | assign x => simp only [oMove]; intro T T2 v T' fp h hs; simp only at h ⊢; simp only [ev_T2 (T := T) (T2 := T2), evs_T2 (T := T) (T2 := T2), optEv_T2 (T := T) (T2 := T2)]; exact reads_const _ _ T T2 v T' fp h hs
  | pick c x y =>
    simp only [oPick]
    intro T T2 v T' fp h hs
    simp only at h ⊢
    have e1 : ∀ ch x, ev H ch { tm := tm, bx := T2 } x = ev H ch { tm := tm, bx := T } x := fun ch x => ev_T2
    simp only [e1]
    split at h
    · exact reads_const _ _ T T2 v T' fp h hs
    · exact reads_const _ _ T T2 v T' fp h hs
    · cases h
  | unOp op t x => simp only [oUn]; intro T T2 v T' fp h hs; simp only at h ⊢; simp only [ev_T2 (T := T) (T2 := T2), evs_T2 (T := T) (T2 := T2), optEv_T2 (T := T) (T2 := T2)]; exact reads_const _ _ T T2 v T' fp h hs
  | binOp op t x y t' =>
    simp only [oBin]
    intro T T2 v T' fp h hs
    simp only at h ⊢
    simp only [ev_T2 (T := T) (T2 := T2), evs_T2 (T := T) (T2 := T2), optEv_T2 (T := T) (T2 := T2)]
    split at h
    · rename_i p q hp hq
      obtain ⟨z, e1, e2⟩ := rdv_some h
      cases e2
      simp only [abin_same hs, e1]
      rfl
    · cases h
  | convert s d x => simp only [oConv]; exact k1 (fun T y => aconv P T s d y) x fun y => reads_conv
  | alloc t =>
    refine reads_ef fun T r h => ?_
    simp only [oAlloc] at h
    split at h
    · cases h; exact ⟨_, rfl⟩
    · cases h
  | box t x =>
    refine reads_ef fun T r h => ?_
    simp only [oBox] at h
    repeat' split at h
    all_goals first
      | (cases h; done)
      | (cases h; exact ⟨_, rfl⟩)
  | load t x => simp only [oLoad]; exact k1 (fun T y => aload P T t y) x fun y => reads_load
  | store t x y =>
    refine reads_ef fun T r h => ?_
    simp only [oStore] at h
    split at h
    · unfold astore at h
      repeat' split at h
      all_goals first
        | (cases h; done)
        | (cases h; exact ⟨_, rfl⟩)
    · cases h
  | fieldAddr t x f =>
    simp only [oFieldAddr]
    refine k1 (fun T y => afieldAddr P T t y f) x fun y => ?_
    intro T T2 v T' fp h hs
    simp only at h ⊢
    unfold afieldAddr at h ⊢
    split at h
    · split at h
      · split at h
        · cases h
        · rename_i h0
          try rw [if_neg h0]
          exact reads_moved T T2 v T' fp h hs
      · cases h
    · cases h
  | field t x f => simp only [oField]; intro T T2 v T' fp h hs; simp only at h ⊢; simp only [ev_T2 (T := T) (T2 := T2), evs_T2 (T := T) (T2 := T2), optEv_T2 (T := T) (T2 := T2)]; exact reads_const _ _ T T2 v T' fp h hs
  | indexAddr t x y =>
    simp only [oIndexAddr]
    intro T T2 v T' fp h hs
    simp only at h ⊢
    simp only [ev_T2 (T := T) (T2 := T2), evs_T2 (T := T) (T2 := T2), optEv_T2 (T := T) (T2 := T2)]
    split at h
    · exact reads_indexAddr T T2 v T' fp h hs
    · cases h
  | index t x y =>
    simp only [oIndex]
    intro T T2 v T' fp h hs
    simp only at h ⊢
    simp only [ev_T2 (T := T) (T2 := T2), evs_T2 (T := T) (T2 := T2), optEv_T2 (T := T) (T2 := T2)]
    split at h
    · exact reads_const _ _ T T2 v T' fp h hs
    · cases h
  | slice t x lo hi mx =>
    simp only [oSlice]
    intro T T2 v T' fp h hs
    simp only at h ⊢
    simp only [ev_T2 (T := T) (T2 := T2), evs_T2 (T := T) (T2 := T2), optEv_T2 (T := T) (T2 := T2)]
    split at h
    · exact reads_slice T T2 v T' fp h hs
    · cases h
  | makeSlice t l c =>
    refine reads_ef fun T r h => ?_
    simp only [oMake] at h
    obtain ⟨y, _, h⟩ := Option.bind_eq_some_iff.1 h
    unfold amake at h
    repeat' split at h
    all_goals first
      | (cases h; done)
      | (cases h; exact ⟨_, rfl⟩)
  | buildSlice t n parts =>
    refine reads_ef fun T r h => ?_
    simp only [oBuildSlice] at h
    obtain ⟨y, _, h⟩ := Option.bind_eq_some_iff.1 h
    unfold abuildSlice at h
    repeat' split at h
    all_goals first
      | (cases h; done)
      | (cases h; exact ⟨_, rfl⟩)
  | build t parts => simp only [oBuild]; intro T T2 v T' fp h hs; simp only at h ⊢; simp only [ev_T2 (T := T) (T2 := T2), evs_T2 (T := T) (T2 := T2), optEv_T2 (T := T) (T2 := T2)]; exact reads_const _ _ T T2 v T' fp h hs
  | extract x i => simp only [oExtract]; intro T T2 v T' fp h hs; simp only at h ⊢; simp only [ev_T2 (T := T) (T2 := T2), evs_T2 (T := T) (T2 := T2), optEv_T2 (T := T) (T2 := T2)]; exact reads_const _ _ T T2 v T' fp h hs
  | makeFunc f first cap =>
    simp only [oFunc]
    intro T T2 v T' fp h hs
    simp only at h ⊢
    simp only [ev_T2 (T := T) (T2 := T2), evs_T2 (T := T) (T2 := T2), optEv_T2 (T := T) (T2 := T2)]
    split at h
    · exact reads_const _ _ T T2 v T' fp h hs
    · cases h
  | nilCheck x =>
    simp only [oNil]
    refine k1 anil x fun y => ?_
    intro T T2 v T' fp h hs
    simp only at h ⊢
    unfold anil at h ⊢
    split at h
    · exact reads_moved T T2 v T' fp h hs
    · exact reads_moved T T2 v T' fp h hs
    · exact reads_moved T T2 v T' fp h hs
    · exact reads_const _ _ T T2 v T' fp h hs
    · cases h
  | call c =>
    simp only [oCall]
    intro T T2 v T' fp h hs
    simp only at h ⊢
    simp only [ev_T2 (T := T) (T2 := T2), evs_T2 (T := T) (T2 := T2), optEv_T2 (T := T) (T2 := T2)]
    split at h
    · rename_i vs hvs
      split at h
      · exact reads_builtin T T2 v T' fp h hs
      · rename_i f hc
        try simp only [ev_T2 (T := T) (T2 := T2), evs_T2 (T := T) (T2 := T2), optEv_T2 (T := T) (T2 := T2)]
        unfold oCallV at h ⊢
        split at h
        · exact reads_doCall T T2 v T' fp h hs
        · cases h
      · cases h
    · cases h
  | _ => exact reads_none
end
end Go.Im

namespace Go.Im
open Go
set_option linter.unusedVariables false
set_option linter.unusedSimpArgs false
set_option linter.unnecessarySimpa false
set_option linter.unusedSectionVars false
section
variable {P : Program} {H : Hint} {call : CallF} {ops : List Oper} {ch : List (Nat × Bool)} {tm tm' : List IV} {T T2 : List Blk} {r : IV × List Blk × Kd} {s : St} {o : Oper}

/-- An effect turns nothing but what it says. -/
def Writes (T : List Blk) (r : IV × List Blk × Kd) : Prop := ∀ wr, r.2.2 = .ef wr → ∀ b, b ∉ wr → r.2.1[b]? = T[b]?

theorem writes_rdv {fp : List Nat} {x : Option IV} (h : rdv T fp x = some r) : Writes T r := by
  obtain ⟨y, _, rfl⟩ := rdv_some h
  intro wr h
  cases h

theorem app_other {α : Type} {T ks : List α} {b : Nat} (h : b < T.length ∨ T.length + ks.length ≤ b) : (T ++ ks)[b]? = T[b]? := by
  rcases h with h | h
  · rw [List.getElem?_append_left h]
  · rw [List.getElem?_eq_none (by simp; omega), List.getElem?_eq_none (by omega)]

theorem app_one {α : Type} {T : List α} {k : α} {b : Nat} (h : b ≠ T.length) : (T ++ [k])[b]? = T[b]? := app_other (by simp; omega)

theorem shut_other {bs : List Nat} {b : Nat} (h : b ∉ bs) : (shut T bs)[b]? = T[b]? := by rw [shut_get, if_neg h]

theorem putBack_out {α : Type} {T ks : List α} {hd : List Nat} {b : Nat} (h1 : b ∉ hd) (h2 : b ∉ (List.range (ks.length - hd.length)).map (T.length + ·)) : (putBack T hd ks)[b]? = T[b]? := by
  by_cases hl : b < T.length
  · exact putBack_other h1 hl
  · have : ¬ b < T.length + (ks.length - hd.length) := by
      intro hlt
      refine h2 (List.mem_map.2 ⟨b - T.length, List.mem_range.2 (by omega), by show T.length + (b - T.length) = b; omega⟩)
    rw [List.getElem?_eq_none (by rw [putBack_len]; omega), List.getElem?_eq_none (by omega)]

mutual
theorem frz_lt : ∀ (x y : IV) (bs : List Nat), frz T x = some (y, bs) → ∀ b ∈ bs, b < T.length
  | .undef, _, _, h => by simp [frz] at h
  | .int _ _, _, _, h => by simp [frz] at h; obtain ⟨_, rfl⟩ := h; simp
  | .bool _, _, _, h => by simp [frz] at h; obtain ⟨_, rfl⟩ := h; simp
  | .str _, _, _, h => by simp [frz] at h; obtain ⟨_, rfl⟩ := h; simp
  | .nilp, _, _, h => by simp [frz] at h; obtain ⟨_, rfl⟩ := h; simp
  | .nilf, _, _, h => by simp [frz] at h; obtain ⟨_, rfl⟩ := h; simp
  | .nili, _, _, h => by simp [frz] at h; obtain ⟨_, rfl⟩ := h; simp
  | .fsl .., _, _, h => by simp [frz] at h; obtain ⟨_, rfl⟩ := h; simp
  | .fp _, _, _, h => by simp [frz] at h; obtain ⟨_, rfl⟩ := h; simp
  | .gd .., _, _, h => by simp [frz] at h
  | .agg l, _, _, h => by
    simp only [frz] at h
    obtain ⟨⟨ys, bs⟩, h1, h2⟩ := Option.map_eq_some_iff.1 h
    cases h2
    exact frzL_lt l ys _ h1
  | .tup l, _, _, h => by
    simp only [frz] at h
    obtain ⟨⟨ys, bs⟩, h1, h2⟩ := Option.map_eq_some_iff.1 h
    cases h2
    exact frzL_lt l ys _ h1
  | .fn g l, _, _, h => by
    cases l with
    | nil => simp [frz] at h; obtain ⟨_, rfl⟩ := h; simp
    | cons => simp [frz] at h
  | .osl b ver, _, _, h => by
    simp only [frz] at h
    obtain ⟨⟨e, l⟩, h1, h2⟩ := Option.map_eq_some_iff.1 h
    cases h2
    obtain ⟨fz, hb⟩ := row_some h1
    intro c hc
    simp at hc
    subst hc
    exact (List.getElem?_eq_some_iff.1 hb).1
  | .vsl b ver lo n, _, _, h => by
    simp only [frz] at h
    obtain ⟨⟨e, l⟩, h1, h2⟩ := Option.map_eq_some_iff.1 h
    cases h2
    obtain ⟨fz, hb⟩ := row_some h1
    intro c hc
    simp at hc
    subst hc
    exact (List.getElem?_eq_some_iff.1 hb).1
  | .vsv b lo n, _, _, h => by
    simp only [frz] at h
    split at h
    · rename_i fz cs hb
      split at h
      · cases h
        intro c hc
        simp at hc
        subst hc
        exact (List.getElem?_eq_some_iff.1 hb).1
      · cases h
    · cases h
  | .ep .., _, _, h => by simp [frz] at h
  | .ptr .., _, _, h => by simp [frz] at h
theorem frzL_lt : ∀ (x y : List IV) (bs : List Nat), frzL T x = some (y, bs) → ∀ b ∈ bs, b < T.length
  | [], _, _, h => by simp [frzL] at h; obtain ⟨_, rfl⟩ := h; simp
  | x :: xs, _, _, h => by
    simp only [frzL] at h
    split at h
    · rename_i y p ys q h1 h2
      cases h
      intro b hb
      rcases List.mem_append.1 hb with hb | hb
      · exact frz_lt x y p h1 b hb
      · exact frzL_lt xs ys q h2 b hb
    · cases h
end

theorem writes_moved {d : Nat} {x : IV} (h : amoved T d x = some r) : Writes T r := by
  unfold amoved at h
  repeat' split at h
  all_goals first | exact writes_rdv h | cases h

theorem writes_doCall {f : FuncId} {as : List IV} (h : doCall H call T f as = some r) : Writes T r := by
  unfold doCall at h
  split at h
  · split at h
    · cases h
    · rename_i as' lent hl
      split at h
      · cases h
      · rename_i r1 T1 hc
        split at h
        · split at h
          · cases h
          · split at h
            · cases h; intro wr h; cases h
            · cases h; intro wr h; cases h
            · cases h
              intro wr h b hb
              cases h
              exact shut_other hb
        · split at h
          · cases h
            intro wr h b hb
            cases h
            refine app_other ?_
            rw [backBs_len]
            by_cases hlt : b < T.length
            · exact .inl hlt
            · refine .inr ?_
              rcases Nat.lt_or_ge b (T.length + T1.length) with h | h
              · exact absurd (List.mem_map.2 ⟨b - T.length, List.mem_range.2 (by omega), by show T.length + (b - T.length) = b; omega⟩) hb
              · exact h
          · cases h
            intro wr h b hb
            cases h
            simp only [List.mem_append, not_or] at hb
            rw [app_other ?_]
            · exact shut_other hb.1
            · rw [backBs_len, shut_len]
              by_cases hlt : b < T.length
              · exact .inl hlt
              · refine .inr ?_
                rcases Nat.lt_or_ge b (T.length + T1.length) with h | h
                · exact absurd (List.mem_map.2 ⟨b - T.length, List.mem_range.2 (by omega), by show T.length + (b - T.length) = b; omega⟩) hb.2
                · exact h
  · rename_i hd hne
    split at h
    · rename_i as' lent hl hall
      split at h
      · cases h
      · rename_i r1 T1 hc
        split at h
        · split at h
          · cases h
          · rename_i r' fr hf
            split at h
            · cases h
              intro wr h b hb
              cases h
              simp only [List.mem_append, not_or] at hb
              exact putBack_out hb.1 (by rw [backBs_len]; exact hb.2)
            · cases h
              intro wr h b hb
              cases h
              simp only [List.mem_append, not_or] at hb
              obtain ⟨⟨b1, b2⟩, b3⟩ := hb
              rw [shut_other]
              · rw [putBack_out b1 (by rw [backBs_len, shut_len]; exact b3)]
                exact shut_other b2
              · intro hm
                obtain ⟨i, hi, rfl⟩ := List.mem_map.1 hm
                have hlt := frz_lt r1 r' fr hf i hi
                unfold fbk at b1 b3
                split at b1
                · rename_i h1
                  exact b1 (List.mem_of_getElem? (i := i) (by simp [List.getD, h1]))
                · rename_i h1
                  rw [if_neg h1] at b3
                  exact b3 (List.mem_map.2 ⟨i - (handed T (H.mv f) as).length, List.mem_range.2 (by omega), rfl⟩)
        · cases h
          intro wr h b hb
          cases h
          simp only [List.mem_append, not_or] at hb
          obtain ⟨⟨b1, b2⟩, b3⟩ := hb
          rw [putBack_out b1 (by rw [backBs_len, shut_len]; exact b3)]
          exact shut_other b2
    · cases h

theorem aop_writes (h : aop P H call ops ch o s = some r) : Writes s.bx r := by
  unfold aop at h
  split at h
  case h_1 => exact writes_rdv h
  case h_2 => exact writes_rdv h
  case h_3 => unfold oPick at h; repeat' split at h
              all_goals first | exact writes_rdv h | cases h
  case h_4 => exact writes_rdv h
  case h_5 => unfold oBin at h; split at h
              · exact writes_rdv h
              · cases h
  case h_6 =>
    obtain ⟨y, _, h⟩ := Option.bind_eq_some_iff.1 h
    unfold aconv at h
    repeat' split at h
    all_goals first | exact writes_rdv h | cases h
  case h_7 =>
    unfold oAlloc at h
    split at h
    · cases h
      intro wr h b hb
      cases h
      exact app_one (by simpa using hb)
    · cases h
  case h_8 =>
    unfold oBox at h
    repeat' split at h
    all_goals first
      | (cases h; done)
      | (cases h
         intro wr h b hb
         cases h
         exact app_one (by simpa using hb))
  case h_9 =>
    obtain ⟨y, _, h⟩ := Option.bind_eq_some_iff.1 h
    unfold aload at h
    repeat' split at h
    all_goals first | exact writes_rdv h | cases h
  case h_10 =>
    unfold oStore at h
    split at h
    · unfold astore at h
      repeat' split at h
      all_goals first
        | (cases h; done)
        | (cases h
           intro wr h b hb
           cases h
           simp only [List.mem_cons, not_or, List.mem_singleton] at hb
           first
             | (rw [List.getElem?_set_ne (Ne.symm hb)]; done)
             | (rw [List.getElem?_set_ne (Ne.symm hb.1)]
                first
                  | done
                  | exact shut_other hb.2))
    · cases h
  case h_11 =>
    obtain ⟨y, _, h⟩ := Option.bind_eq_some_iff.1 h
    unfold afieldAddr at h
    repeat' split at h
    all_goals first | exact writes_moved h | cases h
  case h_12 => exact writes_rdv h
  case h_13 =>
    unfold oIndexAddr at h
    split at h
    · unfold aindexAddr at h
      repeat' split at h
      all_goals first | exact writes_rdv h | exact writes_moved h | cases h
    · cases h
  case h_14 => unfold oIndex at h; split at h
               · exact writes_rdv h
               · cases h
  case h_15 =>
    unfold oSlice at h
    split at h
    · unfold aslice at h
      repeat' split at h
      all_goals first | exact writes_rdv h | cases h
    · cases h
  case h_16 =>
    obtain ⟨y, _, h⟩ := Option.bind_eq_some_iff.1 h
    unfold amake at h
    repeat' split at h
    all_goals first
      | (cases h; done)
      | (cases h
         intro wr h b hb
         cases h
         exact app_one (by simpa using hb))
  case h_17 =>
    obtain ⟨y, _, h⟩ := Option.bind_eq_some_iff.1 h
    unfold abuildSlice at h
    repeat' split at h
    all_goals first
      | (cases h; done)
      | (cases h
         intro wr h b hb
         cases h
         simp only [List.mem_cons, not_or] at hb
         rw [app_one (by rw [shut_len]; exact hb.1)]
         exact shut_other hb.2)
  case h_18 => exact writes_rdv h
  case h_19 => exact writes_rdv h
  case h_20 => unfold oFunc at h; split at h
               · exact writes_rdv h
               · cases h
  case h_21 =>
    obtain ⟨y, _, h⟩ := Option.bind_eq_some_iff.1 h
    unfold anil at h
    split at h
    all_goals first | exact writes_moved h | exact writes_rdv h | cases h
  case h_22 =>
    unfold oCall at h
    split at h
    · split at h
      · unfold abuiltin at h
        repeat' split at h
        all_goals first
          | exact writes_rdv h
          | (unfold aappend at h; repeat' split at h
             all_goals first
              | (cases h; done)
              | (cases h
                 intro wr h b hb
                 cases h
                 first
                  | exact app_one (by simpa using hb)
                  | exact List.getElem?_set_ne (Ne.symm (by simpa using hb))))
          | cases h
      · unfold oCallV at h
        split at h
        · exact writes_doCall h
        · cases h
      · cases h
    · cases h
  case h_23 => cases h
end
end Go.Im

namespace Go.Im
open Go
set_option linter.unusedVariables false
set_option linter.unusedSimpArgs false
set_option linter.unnecessarySimpa false
set_option linter.unusedSectionVars false

/-! ### What comes ahead -/
theorem fold_bit {b : Edge → Bool} {A : Nat → Nat} {j : Nat} : ∀ (es : List Edge) (s : Nat), (es.foldl (fun s e => if b e then s ||| 2 ^ e.on ||| A e.on else s) s).testBit j = true →
    s.testBit j = true ∨ ∃ e ∈ es, b e = true ∧ (e.on = j ∨ (A e.on).testBit j = true)
  | [], s, h => .inl h
  | e :: es, s, h => by
    rw [List.foldl_cons] at h
    rcases fold_bit es _ h with h | ⟨e', h1, h2⟩
    · by_cases hb : b e = true
      · rw [if_pos hb] at h
        simp only [Nat.testBit_or, Bool.or_eq_true, Nat.testBit_two_pow, decide_eq_true_eq] at h
        rcases h with (h | h) | h
        · exact .inl h
        · exact .inr ⟨e, List.mem_cons_self .., hb, .inl h⟩
        · exact .inr ⟨e, List.mem_cons_self .., hb, .inr h⟩
      · rw [if_neg hb] at h
        exact .inl h
    · exact .inr ⟨e', List.mem_cons_of_mem _ h1, h2⟩

theorem bfGo_spec : ∀ (rest : List Oper) (acc : List Nat), acc <+: bfGo rest acc ∧ ∀ (k : Nat) (o : Oper), rest[k]? = some o →
    (bfGo rest acc)[acc.length + k]? = some (o.after.toList.foldl (fun s e => if Region.binds .any e then s ||| 2 ^ e.on ||| (((bfGo rest acc).take (acc.length + k)).getD e.on 0) else s) 0)
  | [], acc => ⟨List.prefix_refl _, fun k o h => by simp at h⟩
  | o0 :: rest, acc => by
    simp only [bfGo]
    generalize hv : (o0.after.toList.foldl (fun s e => if Region.binds .any e then s ||| 2 ^ e.on ||| (acc.getD e.on 0) else s) 0) = v
    obtain ⟨h1, h2⟩ := bfGo_spec rest (acc ++ [v])
    have hp : acc <+: bfGo rest (acc ++ [v]) := List.IsPrefix.trans (List.prefix_append _ _) h1
    refine ⟨hp, fun k o h => ?_⟩
    cases k with
    | zero =>
      simp at h
      subst h
      obtain ⟨t, ht⟩ := h1
      rw [← ht, Nat.add_zero]
      have : ((acc ++ [v]) ++ t)[acc.length]? = some v := by simp
      rw [this]
      have htk : (acc ++ [v] ++ t).take acc.length = acc := by simp
      rw [htk, hv]
    | succ k =>
      have := h2 k o (by simpa using h)
      simp only [List.length_append, List.length_cons, List.length_nil] at this
      rw [show acc.length + (k + 1) = acc.length + (0 + 1) + k by omega]
      exact this

/-- A set of operations with all that is ahead of them. -/
theorem bfs_closed {ops : List Oper} {L : Nat → Prop} (hc : ∀ i o, ops[i]? = some o → L i → ∀ e ∈ o.after.toList, Region.binds .any e = true → L e.on) :
    ∀ (i : Nat) (o : Oper), ops[i]? = some o → (∀ e ∈ o.after.toList, Region.binds .any e = true → L e.on) → ∀ j, ((bfs ops).getD i 0).testBit j = true → L j := by
  intro i
  induction i using Nat.strongRecOn with
  | _ i ih =>
    intro o ho he j hj
    obtain ⟨_, h2⟩ := bfGo_spec ops []
    have h3 := h2 i o ho
    simp only [List.length_nil, Nat.zero_add] at h3
    have h4 : (bfs ops).getD i 0 = o.after.toList.foldl (fun s e => if Region.binds .any e then s ||| 2 ^ e.on ||| (((bfGo ops []).take i).getD e.on 0) else s) 0 := by
      simp only [bfs, List.getD, h3, Option.getD_some]
    rw [h4] at hj
    rcases fold_bit (b := Region.binds .any) (A := fun k => ((bfGo ops []).take i).getD k 0) o.after.toList 0 hj with h | ⟨e, m1, m2, m3⟩
    · simp at h
    · have hL := he e m1 m2
      rcases m3 with m3 | m3
      · exact m3 ▸ hL
      · simp only [List.getD] at m3
        rw [List.getElem?_take] at m3
        split at m3
        · rename_i hlt
          cases hoe : ops[e.on]? with
          | none =>
            have hl : i < ops.length := (List.getElem?_eq_some_iff.1 ho).1
            have := List.getElem?_eq_none_iff.1 hoe
            omega
          | some oe => exact ih e.on hlt oe hoe (fun e' => hc e.on oe hoe hL e') j m3
        · simp at m3

/-! ### Static facts -/
theorem onceGo_iff {ops : List Oper} : ∀ (l : List Oper) (i : Nat), onceGo ops l i = true → ∀ (k : Nat) (o : Oper) (d : Nat), l[k]? = some o → o.dst = some d → loneB d (i + k) ops 0 = true
  | [], i, _, k, o, d, h, _ => by simp at h
  | o0 :: l, i, hg, 0, o, d, h, hd => by
    simp only [onceGo, Bool.and_eq_true] at hg
    simp at h
    subst h
    have := hg.1
    rw [hd] at this
    exact this
  | o0 :: l, i, hg, k + 1, o, d, h, hd => by
    simp only [onceGo, Bool.and_eq_true] at hg
    have := onceGo_iff l (i + 1) hg.2 k o d (by simpa using h) hd
    rwa [show i + (k + 1) = i + 1 + k by omega]

theorem backGo_iff : ∀ (l : List Oper) (i : Nat), backGo l i = true → ∀ (k : Nat) (o : Oper), l[k]? = some o → ∀ e ∈ o.after.toList, Region.binds .any e = true → e.on < i + k
  | [], i, _, k, o, h => by simp at h
  | o0 :: l, i, hg, 0, o, h => by
    simp only [backGo, Bool.and_eq_true] at hg
    simp at h
    subst h
    intro e he hb
    have := List.all_eq_true.1 hg.1 e he
    rw [hb] at this
    simp at this
    exact this
  | o0 :: l, i, hg, k + 1, o, h => by
    simp only [backGo, Bool.and_eq_true] at hg
    intro e he hb
    have := backGo_iff l (i + 1) hg.2 k o (by simpa using h) e he hb
    omega

theorem numb_get : ∀ (l : List Oper) (i k : Nat), (numb l i)[k]? = (l[k]?).map fun o => (i + k, o)
  | [], i, k => by simp [numb]
  | o :: l, i, 0 => by simp [numb]
  | o :: l, i, k + 1 => by
    simp only [numb, List.getElem?_cons_succ]
    rw [numb_get l (i + 1) k]
    simp only [show i + 1 + k = i + (k + 1) by omega]

theorem pairsGo_iff {f : Nat → Nat → Oper → Oper → Bool} : ∀ (l : List (Nat × Oper)), pairsGo f l = true → ∀ (a b : Nat) (p q : Nat × Oper), a < b → l[a]? = some p → l[b]? = some q → f p.1 q.1 p.2 q.2 = true
  | [], _, a, b, p, q, _, h, _ => by simp at h
  | (i, x) :: l, h, 0, b + 1, p, q, _, h1, h2 => by
    simp only [pairsGo, Bool.and_eq_true, List.all_eq_true] at h
    simp at h1
    subst h1
    exact h.1 q (List.mem_of_getElem? (by simpa using h2))
  | (i, x) :: l, h, a + 1, b + 1, p, q, hab, h1, h2 => by
    simp only [pairsGo, Bool.and_eq_true] at h
    exact pairsGo_iff l h.2 a b p q (by omega) (by simpa using h1) (by simpa using h2)
  | (i, x) :: l, h, a, 0, p, q, hab, _, _ => by omega

structure DrawOK (ops : List Oper) : Prop where
  once : ∀ (i j : Nat) (o o' : Oper) (d : Nat), ops[i]? = some o → ops[j]? = some o' → o.dst = some d → o'.dst = some d → i = j
  back : ∀ (i : Nat) (o : Oper), ops[i]? = some o → ∀ e ∈ o.after.toList, Region.binds .any e = true → e.on < i
  slots : ∀ (i j : Nat) (o o' : Oper), i < j → ops[i]? = some o → ops[j]? = some o' → ((bfs ops).getD j 0).testBit i = true ∨ ((∀ d, o.dst = some d → d ∉ looksOf ops o') ∧ ∀ d, o'.dst = some d → d ∉ looksOf ops o)

theorem drawOK_iff {ops : List Oper} (h : drawOK ops = true) : DrawOK ops := by
  simp only [drawOK, Bool.and_eq_true] at h
  obtain ⟨⟨h1, h2⟩, h3⟩ := h
  refine ⟨fun i j o o' d hi hj hd hd' => ?_, fun i o hi e he hb => ?_, fun i j o o' hij hi hj => ?_⟩
  · have := onceGo_iff ops 0 h1 i o d hi hd
    rw [Nat.zero_add] at this
    have := lone_iff ops 0 this j o' hj hd'
    omega
  · have := backGo_iff ops 0 h2 i o hi e he hb
    omega
  · have := pairsGo_iff _ h3 i j (0 + i, o) (0 + j, o') hij (by rw [numb_get, hi]; rfl) (by rw [numb_get, hj]; rfl)
    simp only [Nat.zero_add, Bool.or_eq_true] at this
    rcases this with h | h
    · exact .inl h
    · refine .inr ?_
      unfold slotsApart at h
      simp only [Bool.and_eq_true] at h
      refine ⟨fun d hd hm => ?_, fun d hd hm => ?_⟩
      · have := h.1
        rw [hd] at this
        simp at this
        exact this hm
      · have := h.2
        rw [hd] at this
        simp at this
        exact this hm

theorem apart_iff {ops : List Oper} {g : Log} (h : apartB ops g = true) {i j : Nat} {k l : Kd} (hi : (i, k) ∈ g) (hj : (j, l) ∈ g) (hij : i < j) (hb : ((bfs ops).getD j 0).testBit i = false) :
    (∀ fp wr, k = .rd fp → l = .ef wr → ∀ b ∈ fp, b ∉ wr) ∧ (∀ fp wr, k = .ef wr → l = .rd fp → ∀ b ∈ fp, b ∉ wr) ∧ ¬ (∃ w1 w2, k = .ef w1 ∧ l = .ef w2) := by
  have h1 := List.all_eq_true.1 (List.all_eq_true.1 h (i, k) hi) (j, l) hj
  simp only [hij, if_true, hb] at h1
  cases k with
  | rd fp =>
    cases l with
    | rd fp' => exact ⟨(fun _ _ _ h => by cases h), (fun _ _ h => by cases h), (fun ⟨_, _, h, _⟩ => by cases h)⟩
    | ef wr =>
      refine ⟨fun fp' wr' e1 e2 b hb => ?_, (fun _ _ h => by cases h), (fun ⟨_, _, h, _⟩ => by cases h)⟩
      cases e1; cases e2
      have := List.all_eq_true.1 h1 b hb
      simpa using this
  | ef wr =>
    cases l with
    | rd fp =>
      refine ⟨(fun _ _ h => by cases h), fun fp' wr' e1 e2 b hb => ?_, (fun ⟨_, _, _, h⟩ => by cases h)⟩
      cases e1; cases e2
      have := List.all_eq_true.1 h1 b hb
      simpa using this
    | ef wr' => simp at h1
end Go.Im

namespace Go.Im
open Go
set_option linter.unusedVariables false
set_option linter.unusedSimpArgs false
set_option linter.unnecessarySimpa false
set_option linter.unusedSectionVars false
section
variable {P : Program} {H : Hint} {call : CallF} {ops : List Oper}

/-- What one operation of a region did. -/
inductive One (P : Program) (H : Hint) (call : CallF) (ops : List Oper) (o : Oper) (s : St) : IV → List Blk → Option Kd → Prop
  | run (ch : List (Nat × Bool)) (x : IV) (T' : List Blk) (k : Kd) : (∀ j want, o.guard = some (j, want) → condOf want (slotv ops s.tm j) = some true) → ChOK s.tm ch → aop P H call ops ch o s = some (x, T', k) → One P H call ops o s x T' (some k)
  | gdT (ch : List (Nat × Bool)) (j : Nat) (want : Bool) (v : IV) (fp : List Nat) : o.guard = some (j, want) → condOf want (slotv ops s.tm j) = some true → ChOK s.tm ch → aop P H call ops ch o s = some (v, s.bx, .rd fp) → One P H call ops o s (.gd j want true v) s.bx (some (.rd fp))
  | gdF (j : Nat) (want : Bool) (v : IV) (fp : List Nat) : o.guard = some (j, want) → condOf want (slotv ops s.tm j) = some false → One P H call ops o s (.gd j want false v) s.bx (some (.rd fp))
  | skip (j : Nat) (want : Bool) : o.guard = some (j, want) → condOf want (slotv ops s.tm j) = some false → One P H call ops o s unit s.bx none

structure Trace (P : Program) (H : Hint) (call : CallF) (ops : List Oper) (i : Nat) (s : St) (n : Nat) (s' : St) (g' : Log) (f : Nat → St) (x : Nat → IV) (kd : Nat → Option Kd) : Prop where
  h0 : f i = s
  hn : f n = s'
  step : ∀ (j : Nat) (o : Oper), i ≤ j → ops[j]? = some o → One P H call ops o (f j) (x j) (f (j + 1)).bx (kd j) ∧ (f (j + 1)).tm = putTm (f j).tm o.dst (x j) ∧ RInv ops j (f j).tm
  log : ∀ (j : Nat) (k : Kd), i ≤ j → j < n → kd j = some k → (j, k) ∈ g'
  last : RInv ops n s'.tm

theorem trace_of (hg : guardsOK ops = true) : ∀ (rest : List Oper) (i : Nat) (s : St) (g : Log) (s' : St) (g' : Log), ops.drop i = rest → aops P H call ops rest i s g = some (s', g') → RInv ops i s.tm →
    (∀ e ∈ g, e ∈ g') ∧ ∃ f x kd, Trace P H call ops i s (i + rest.length) s' g' f x kd
  | [], i, s, g, s', g', hd, h, hr => by
    simp only [aops, Option.some.injEq, Prod.mk.injEq] at h
    obtain ⟨rfl, rfl⟩ := h
    refine ⟨fun _ h => h, fun _ => s, fun _ => .undef, fun _ => none, ⟨rfl, rfl, fun j o hj ho => ?_, (fun j k _ _ h => by cases h), by simpa using hr⟩⟩
    have : ops.length ≤ i := by simpa using hd
    have := (List.getElem?_eq_some_iff.1 ho).1
    omega
  | o :: rest, i, s, g, s', g', hd, h, hr => by
    have hi : ops[i]? = some o := by
      have : (ops.drop i)[0]? = some o := by rw [hd]; rfl
      rwa [List.getElem?_drop, Nat.add_zero] at this
    have hdr : ops.drop (i + 1) = rest := by
      have : (ops.drop i).drop 1 = rest := by rw [hd]; rfl
      rwa [List.drop_drop] at this
    have go : ∀ (x : IV) (T : List Blk) (k : Option Kd) (g2 : Log), aops P H call ops rest (i + 1) { tm := putTm s.tm o.dst x, bx := T } g2 = some (s', g') → RInv ops (i + 1) (putTm s.tm o.dst x) → One P H call ops o s x T k →
        (∀ e ∈ g, e ∈ g2) → (∀ kk, k = some kk → (i, kk) ∈ g2) → (∀ e ∈ g, e ∈ g') ∧ ∃ f x kd, Trace P H call ops i s (i + (rest.length + 1)) s' g' f x kd := by
      intro x T k g2 h2 hr2 hone hg1 hg2
      obtain ⟨m1, f, xs, kd, tr⟩ := trace_of hg rest (i + 1) _ g2 s' g' hdr h2 hr2
      refine ⟨fun e he => m1 e (hg1 e he), fun j => if j = i then s else f j, fun j => if j = i then x else xs j, fun j => if j = i then k else kd j, ?_⟩
      refine ⟨by simp, ?_, ?_, ?_, by have := tr.last; rwa [show i + (rest.length + 1) = i + 1 + rest.length by omega]⟩
      · rw [if_neg (by omega), show i + (rest.length + 1) = i + 1 + rest.length by omega]
        exact tr.hn
      · intro j oj hj hoj
        by_cases e : j = i
        · subst e
          rw [hi] at hoj
          cases hoj
          simp only [if_true, if_neg (show ¬ j + 1 = j by omega), tr.h0]
          exact ⟨hone, trivial, hr⟩
        · simp only [if_neg e, if_neg (show ¬ j + 1 = i by omega)]
          exact tr.step j oj (by omega) hoj
      · intro j kk hj hjn hkk
        by_cases e : j = i
        · subst e
          simp only [if_true] at hkk
          exact m1 _ (hg2 kk hkk)
        · simp only [if_neg e] at hkk
          exact tr.log j kk (by omega) (by omega) hkk
    simp only [List.length_cons]
    simp only [aops] at h
    cases hgd : o.guard with
    | none =>
      simp only [hgd] at h
      split at h
      · rename_i x T kd hop
        rw [putK_eq] at h
        obtain ⟨hop, hng⟩ := aopG_some hop
        exact go x T (some kd) _ h (hr.next hg hi (fun j w c y e => absurd e (hng j w c y)) (fun j w u h => by rw [hgd] at h; cases h))
          (.run [] x T kd (fun j want h => by rw [hgd] at h; cases h) (ChOK.nil _) hop) (fun e he => List.mem_cons_of_mem _ he) (fun kk e => by cases e; exact List.mem_cons_self ..)
      · cases h
    | some q =>
      obtain ⟨j, want⟩ := q
      simp only [hgd, nth?_eq] at h
      have hsl : ((ops[j]?).bind (·.dst)).bind (fun x => s.tm[x]?) = slotv ops s.tm j := rfl
      rw [hsl] at h
      split at h
      · cases h
      · rename_i c hc
        have hu0 : ∀ (x : IV), (∀ u, condOf u (some x) = some true → c = true) → ∀ j1 w1 u, o.guard = some (j1, w1) → condOf u (some x) = some true → condOf w1 (slotv ops s.tm j1) = some true := by
          intro x hx j1 w1 u h1 h2
          rw [hgd] at h1
          cases h1
          rw [hc, hx u h2]
        have skip : ∀ g2, (∀ e ∈ g, e ∈ g2) → aops P H call ops rest (i + 1) { tm := putTm s.tm o.dst unit, bx := s.bx } g2 = some (s', g') → c = false → (∀ e ∈ g, e ∈ g') ∧ ∃ f x kd, Trace P H call ops i s (i + (rest.length + 1)) s' g' f x kd := by
          intro g2 hg2 h2 hcf
          subst hcf
          refine go unit s.bx none g2 h2 (hr.next hg hi (fun j w c y e => by cases e) (hu0 unit ?_)) (.skip j want hgd hc) hg2 (fun kk e => by cases e)
          intro u h
          simp [unit, condOf] at h
        have hch : c = true → ChOK s.tm (chainOf ops 12 i) := fun hct => chain_ok hg hr 12 i o j want (Nat.le_refl _) hi hgd (by rw [hc, hct])
        split at h
        · split at h
          · rename_i v T fp hop
            rw [putK_eq] at h
            obtain ⟨hop, hng⟩ := aopG_some hop
            have hT0 : T = s.bx := aop_rd hop fp rfl
            subst hT0
            have hr2 : RInv ops (i + 1) (putTm s.tm o.dst (.gd j want c v)) := by
              refine hr.next hg hi ?_ (hu0 _ ?_)
              · intro j1 w1 c1 y e
                cases e
                exact ⟨hgd, hc⟩
              · intro u h
                cases c with
                | true => rfl
                | false => cases v <;> simp [condOf] at h
            cases c with
            | true => exact go _ s.bx (some (.rd fp)) _ h hr2 (.gdT _ j want v fp hgd hc (hch rfl) hop) (fun e he => List.mem_cons_of_mem _ he) (fun kk e => by cases e; exact List.mem_cons_self ..)
            | false => exact go _ s.bx (some (.rd fp)) _ h hr2 (.gdF j want v fp hgd hc) (fun e he => List.mem_cons_of_mem _ he) (fun kk e => by cases e; exact List.mem_cons_self ..)
          · cases c with
            | true => cases h
            | false =>
              rw [putK_eq] at h
              exact skip _ (fun _ h => h) h rfl
        · cases c with
          | true =>
            dsimp only at h
            split at h
            · rename_i v T kd hop
              rw [putK_eq] at h
              obtain ⟨hop, hng⟩ := aopG_some hop
              refine go v T (some kd) _ h (hr.next hg hi (fun j w c y e => absurd e (hng j w c y)) (hu0 v fun _ _ => rfl))
                (.run _ v T kd (fun j1 w1 h1 => by rw [hgd] at h1; cases h1; exact hc) (hch rfl) hop) (fun e he => List.mem_cons_of_mem _ he) (fun kk e => by cases e; exact List.mem_cons_self ..)
            · cases h
          | false =>
            dsimp only at h
            rw [putK_eq] at h
            exact skip _ (fun _ h => h) h rfl

/-- What stands in the slots before operation i. -/
structure Slots (ops : List Oper) (tm0 : List IV) (x : Nat → IV) (L : Nat → Prop) (m : List IV) : Prop where
  len : m.length = tm0.length
  set : ∀ (j : Nat) (o : Oper) (d : Nat), ops[j]? = some o → o.dst = some d → L j → d < tm0.length → m[d]? = some (x j)
  old : ∀ t, (∀ (j : Nat) (o : Oper), ops[j]? = some o → o.dst = some t → ¬ L j) → m[t]? = tm0[t]?

theorem Slots.put {tm0 m : List IV} {x : Nat → IV} {L : Nat → Prop} (hd : DrawOK ops) (h : Slots ops tm0 x L m) {i : Nat} {o : Oper} (hi : ops[i]? = some o) : Slots ops tm0 x (fun j => L j ∨ j = i) (putTm m o.dst (x i)) := by
  have hl : (putTm m o.dst (x i)).length = m.length := by cases o.dst <;> simp [putTm]
  refine ⟨hl.trans h.len, fun j oj d hj hdj hL hlt => ?_, fun t ht => ?_⟩
  · by_cases e : j = i
    · subst e
      rw [hi] at hj
      cases hj
      simp only [hdj, putTm]
      rw [List.getElem?_set_self (by rw [h.len]; exact hlt)]
    · have hL : L j := hL.resolve_right e
      have := h.set j oj d hj hdj hL hlt
      cases hod : o.dst with
      | none => exact this
      | some d' =>
        simp only [putTm]
        rw [List.getElem?_set_ne]
        · exact this
        · intro e2
          subst e2
          exact e (hd.once j i oj o d' hj hi hdj hod)
  · have h1 := h.old t fun j oj hj hdj hL => ht j oj hj hdj (.inl hL)
    cases hod : o.dst with
    | none => exact h1
    | some d' =>
      simp only [putTm]
      rw [List.getElem?_set_ne]
      · exact h1
      · intro e2
        subst e2
        exact ht i o hi hod (.inr rfl)

theorem Slots.congr {tm0 m : List IV} {x : Nat → IV} {L L' : Nat → Prop} (h : Slots ops tm0 x L m) (he : ∀ (j : Nat) (o : Oper), ops[j]? = some o → (L j ↔ L' j)) : Slots ops tm0 x L' m :=
  ⟨h.len, fun j o d hj hd hL hlt => h.set j o d hj hd ((he j o hj).2 hL) hlt, fun t ht => h.old t fun j o hj hd hL => ht j o hj hd ((he j o hj).1 hL)⟩

/-- The states of the run in order. -/
theorem trace_slots {s s' : St} {g' : Log} {f : Nat → St} {x : Nat → IV} {kd : Nat → Option Kd} (hd : DrawOK ops) (tr : Trace P H call ops 0 s ops.length s' g' f x kd) : ∀ i, i ≤ ops.length → Slots ops s.tm x (· < i) (f i).tm
  | 0, _ => by
    rw [tr.h0]
    exact ⟨rfl, fun j o d _ _ h => absurd h (Nat.not_lt_zero _), fun t _ => rfl⟩
  | i + 1, hi => by
    have ih := trace_slots hd tr i (by omega)
    have ho := List.getElem?_eq_getElem (show i < ops.length by omega)
    rw [(tr.step i _ (Nat.zero_le _) ho).2.1]
    exact (ih.put hd ho).congr fun j o _ => ⟨fun h => by omega, fun h => by omega⟩

/-- Slots alike where an operation looks. -/
theorem slots_alike {tm0 m m' : List IV} {x : Nat → IV} {L L' : Nat → Prop} (h : Slots ops tm0 x L m) (h' : Slots ops tm0 x L' m') (hd : DrawOK ops) (t : Nat) (ht : ∀ (j : Nat) (o : Oper), ops[j]? = some o → o.dst = some t → (L j ↔ L' j)) : m[t]? = m'[t]? := by
  by_cases hlt : t < tm0.length
  · by_cases hex : ∃ (j : Nat) (o : Oper), ops[j]? = some o ∧ o.dst = some t
    · obtain ⟨j, o, hj, hdj⟩ := hex
      by_cases hL : L j
      · rw [h.set j o t hj hdj hL hlt, h'.set j o t hj hdj ((ht j o hj hdj).1 hL) hlt]
      · have e : ∀ (k : Nat) (ok : Oper), ops[k]? = some ok → ok.dst = some t → k = j := fun k ok hk hdk => hd.once k j ok o t hk hj hdk hdj
        rw [h.old t fun k ok hk hdk hLk => hL (e k ok hk hdk ▸ hLk), h'.old t fun k ok hk hdk hLk => hL ((ht j o hj hdj).2 (e k ok hk hdk ▸ hLk))]
    · rw [h.old t fun k ok hk hdk _ => hex ⟨k, ok, hk, hdk⟩, h'.old t fun k ok hk hdk _ => hex ⟨k, ok, hk, hdk⟩]
  · rw [List.getElem?_eq_none (by rw [h.len]; omega), List.getElem?_eq_none (by rw [h'.len]; omega)]
end
end Go.Im

namespace Go.Im
open Go
set_option linter.unusedVariables false
set_option linter.unusedSimpArgs false
set_option linter.unnecessarySimpa false
set_option linter.unusedSectionVars false

def maskTm (l : List Nat) (tm : List IV) : List IV := tm.zipIdx.map fun p => if p.2 ∈ l then p.1 else .undef

theorem mask_get {l : List Nat} {tm : List IV} {t : Nat} : (maskTm l tm)[t]? = (tm[t]?).map fun x => if t ∈ l then x else .undef := by
  simp only [maskTm, List.getElem?_map, List.getElem?_zipIdx, Option.map_map, Nat.zero_add]
  rfl

section
variable {P : Program} {H : Hint} {call : CallF} {ops : Array Oper} {s s' : St} {g' : Log} {f : Nat → St} {x : Nat → IV} {kd : Nat → Option Kd}

theorem trace_bx (tr : Trace P H call ops.toList 0 s ops.toList.length s' g' f x kd) {j : Nat} (hj : j < ops.toList.length) :
    ((∀ wr, kd j ≠ some (.ef wr)) → (f (j + 1)).bx = (f j).bx) ∧ ∀ wr, kd j = some (.ef wr) → ∀ b, b ∉ wr → (f (j + 1)).bx[b]? = (f j).bx[b]? := by
  obtain ⟨h1, h2, h3⟩ := tr.step j _ (Nat.zero_le _) (List.getElem?_eq_getElem hj)
  generalize hT : (f (j + 1)).bx = T at h1
  generalize hx : x j = xx at h1
  generalize hk : kd j = kk at h1
  cases h1 with
  | run ch _ _ k hg hch hop =>
    refine ⟨fun hn => ?_, fun wr e b hb => ?_⟩
    · cases k with
      | rd fp => exact aop_rd hop fp rfl
      | ef wr => exact absurd rfl (hn wr)
    · cases e
      exact aop_writes hop wr rfl b hb
  | gdT => exact ⟨fun _ => rfl, fun wr e => by cases e⟩
  | gdF => exact ⟨fun _ => rfl, fun wr e => by cases e⟩
  | skip => exact ⟨fun _ => rfl, fun wr e => by cases e⟩

/-- Blocks that no effect between two places turns. -/
theorem between (tr : Trace P H call ops.toList 0 s ops.toList.length s' g' f x kd) {b : Nat} : ∀ (d lo : Nat), lo + d ≤ ops.toList.length → (∀ j wr, lo ≤ j → j < lo + d → kd j = some (.ef wr) → b ∉ wr) → (f (lo + d)).bx[b]? = (f lo).bx[b]?
  | 0, lo, _, _ => rfl
  | d + 1, lo, hl, h => by
    have ih := between tr d lo (by omega) fun j wr h1 h2 h3 => h j wr h1 (by omega) h3
    obtain ⟨k1, k2⟩ := trace_bx tr (j := lo + d) (by omega)
    rw [← ih, show lo + (d + 1) = lo + d + 1 by omega]
    by_cases he : ∃ wr, kd (lo + d) = some (.ef wr)
    · obtain ⟨wr, he⟩ := he
      exact k2 wr he b (h (lo + d) wr (by omega) (by omega) he)
    · rw [k1 fun wr e => he ⟨wr, e⟩]

theorem between_all (tr : Trace P H call ops.toList 0 s ops.toList.length s' g' f x kd) : ∀ (d lo : Nat), lo + d ≤ ops.toList.length → (∀ j wr, lo ≤ j → j < lo + d → kd j ≠ some (.ef wr)) → (f (lo + d)).bx = (f lo).bx
  | 0, lo, _, _ => rfl
  | d + 1, lo, hl, h => by
    have ih := between_all tr d lo (by omega) fun j wr h1 h2 => h j wr h1 (by omega)
    obtain ⟨k1, _⟩ := trace_bx tr (j := lo + d) (by omega)
    rw [← ih, show lo + (d + 1) = lo + d + 1 by omega]
    exact k1 fun wr => h (lo + d) wr (by omega) (by omega)

structure J (H : Hint) (ops : Array Oper) (s : St) (f : Nat → St) (x : Nat → IV) (kd : Nat → Option Kd) (Γ0 : Cx) (w0 : World) (L : Array Bool) (a : Act) (w : World) : Prop where
  size : L.size = ops.size
  closed : ∀ (i : Nat) (o : Oper), ops.toList[i]? = some o → L.getD i false = true → ∀ e ∈ o.after.toList, Region.binds .any e = true → L.getD e.on false = true
  st : ∃ Γ m e, Sat H Γ w { tm := m, bx := (f e).bx } a ∧ Step Γ0 w0 Γ w ∧ Slots ops.toList s.tm x (fun j => L.getD j false = true) m ∧ e ≤ ops.toList.length ∧ ∀ (j : Nat) (wr : List Nat), j < ops.toList.length → kd j = some (.ef wr) → (L.getD j false = true ↔ j < e)

theorem any_step (hcall : CallOK P H call) (hg : guardsOK ops.toList = true) (hd : DrawOK ops.toList) (hap : apartB ops.toList g' = true) (tr : Trace P H call ops.toList 0 s ops.toList.length s' g' f x kd)
    {Γ0 : Cx} {w0 : World} {L : Array Bool} {a : Act} {w : World} {Q : Exit → Act → World → Prop} {K : Act → World → Prop} (h : J H ops s f x kd Γ0 w0 L a w) {i : Nat} {o : Oper} (ho : ops.toList[i]? = some o) (hL : L.getD i true = false)
    (hp : ∀ e ∈ o.after.toList, Region.binds .any e = true → L.getD e.on false = true) (hK : ∀ a' w', J H ops s f x kd Γ0 w0 (L.setIfInBounds i true) a' w' → K a' w') : wpOp P ops Q i K a w := by
  obtain ⟨hsz, hcl, Γ, m, e, hs, hst, hsl, hen, heff⟩ := h
  have hil : i < ops.toList.length := (List.getElem?_eq_some_iff.1 ho).1
  have hiL : i < L.size := by rw [hsz]; simpa using hil
  have hLi : L.getD i false = false := by
    simp only [Array.getD, hiL, dif_pos] at hL ⊢
    exact hL
  have ho' : ops[i]? = some o := by simpa using ho
  have hbf := bfs_closed (ops := ops.toList) (L := fun j => L.getD j false = true) hcl
  have before_in : ∀ j, ((bfs ops.toList).getD i 0).testBit j = true → L.getD j false = true := hbf i o ho hp
  have after_out : ∀ j oj, ops.toList[j]? = some oj → ((bfs ops.toList).getD j 0).testBit i = true → L.getD j false = true → False := by
    intro j oj hj hb hLj
    have := hbf j oj hj (hcl j oj hj hLj) i hb
    rw [hLi] at this
    cases this
  obtain ⟨hone, htm, hri⟩ := tr.step i o (Nat.zero_le _) ho
  have hin := trace_slots hd tr i (by omega)
  have hlook : ∀ t, t ∈ looksOf ops.toList o → m[t]? = (f i).tm[t]? := by
    intro t ht
    refine slots_alike hsl hin hd t fun j oj hj hdj => ?_
    rcases Nat.lt_trichotomy j i with hji | rfl | hji
    · rcases hd.slots j i oj o hji hj ho with hb | hb
      · exact ⟨fun _ => hji, fun _ => before_in j hb⟩
      · exact absurd ht (hb.1 t hdj)
    · rw [hLi]
      exact ⟨(fun h => by cases h), fun h => absurd h (Nat.lt_irrefl _)⟩
    · rcases hd.slots i j o oj hji ho hj with hb | hb
      · exact ⟨fun h => (after_out j oj hj hb h).elim, fun h => by omega⟩
      · exact absurd ht (hb.2 t hdj)
  have hmask : Sat H Γ w { tm := maskTm (looksOf ops.toList o) (f i).tm, bx := (f e).bx } a := by
    refine ⟨hs.inv, hs.T, ⟨?_, fun t y hy => ?_⟩, hs.gl, hs.df⟩
    · have h1 := hs.tm.1
      have h2 := hsl.len
      have h3 := hin.len
      simp only [maskTm, List.length_map, List.length_zipIdx]
      simp only at h1
      omega
    · simp only [mask_get] at hy
      obtain ⟨z, hz, rfl⟩ := Option.map_eq_some_iff.1 hy
      split
      · rename_i hm
        exact hs.tm.2 t z ((hlook t hm).trans hz)
      · trivial
  have halike : Alike (f i).tm (maskTm (looksOf ops.toList o) (f i).tm) (usesOf o.op) := by
    intro t ht
    have hm : t ∈ looksOf ops.toList o := by
      unfold looksOf
      exact List.mem_append_left _ (List.mem_filterMap.2 ⟨.tmp t, ht, rfl⟩)
    rw [mask_get]
    cases (f i).tm[t]? <;> simp [hm]
  have hslot : ∀ j want, o.guard = some (j, want) → slotv ops.toList (maskTm (looksOf ops.toList o) (f i).tm) j = slotv ops.toList (f i).tm j := by
    intro j want hgd
    obtain ⟨_, oj, d, h3, h4, _⟩ := guards_iff hg ho hgd
    have hm : d ∈ looksOf ops.toList o := by
      unfold looksOf
      refine List.mem_append_right _ ?_
      simp [hgd, nth?_eq, h3, h4]
    unfold slotv
    simp only [h3, Option.bind_some, h4, mask_get]
    cases (f i).tm[d]? <;> simp [hm]
  have hch : ∀ ch, ChOK (f i).tm ch → ChOK (maskTm (looksOf ops.toList o) (f i).tm) ch := by
    intro ch hc t j u c y hy hm
    rw [mask_get] at hy
    obtain ⟨z, hz, e2⟩ := Option.map_eq_some_iff.1 hy
    split at e2
    · subst e2
      exact hc t j u c y hz hm
    · cases e2
  have hgf : ∀ c p q, o.op = .pick c p q → GdFor ops.toList (maskTm (looksOf ops.toList o) (f i).tm) c := by
    intro c p q hop t j u cc y hy hw
    rw [mask_get] at hy
    obtain ⟨z, hz, e2⟩ := Option.map_eq_some_iff.1 hy
    split at e2
    · subst e2
      obtain ⟨o2, d2, y2, k1, k2, k3, k4⟩ := hri.gdOK t j u cc y hz
      obtain ⟨d, o1, rfl, m1, m2⟩ := whoSets_some hw
      rw [k1] at m1
      cases m1
      rw [k2] at m2
      cases m2
      refine ⟨o2, d2, y2, k1, k2, ?_, k4⟩
      have hm : d2 ∈ looksOf ops.toList o := by
        unfold looksOf
        exact List.mem_append_left _ (List.mem_filterMap.2 ⟨.tmp d2, by rw [hop]; simp [usesOf], rfl⟩)
      rw [mask_get, k3]
      simp [hm]
    · cases e2
  have hset : ∀ j, (L.setIfInBounds i true).getD j false = true ↔ (L.getD j false = true ∨ j = i) := by
    intro j
    simp only [Array.getD_eq_getD_getElem?, Array.getElem?_setIfInBounds]
    by_cases e : i = j
    · subst e
      simp [hiL]
    · simp [e, Ne.symm e]
  have fin : ∀ (e' : Nat) (v : Value) (w1 : World) (Γ1 : Cx), e' ≤ ops.toList.length → Γ1.T = (f e').bx → Step Γ w Γ1 w1 → Rep Γ1 w1 (x i) v →
      (∀ (j : Nat) (wr : List Nat), j < ops.toList.length → kd j = some (.ef wr) → ((L.getD j false = true ∨ j = i) ↔ j < e')) → K (a.put o.dst v) w1 := by
    intro e' v w1 Γ1 hel hT hs1 hx he
    refine hK _ _ ⟨by simpa using hsz, fun k ok hk hLk ed hed hb => ?_, Γ1, putTm m o.dst (x i), e', hs.put hs1 hT o.dst hx, hst.trans hs1, (hsl.put hd ho).congr fun j oj _ => (hset j).symm, hel, fun j wr hj hk => (hset j).trans (he j wr hj hk)⟩
    rw [hset]
    rcases (hset k).1 hLk with h | rfl
    · exact .inl (hcl k ok hk h ed hed hb)
    · rw [ho] at hk
      cases hk
      exact .inl (hp ed hed hb)
  have quiet : (∀ wr, kd i ≠ some (.ef wr)) → ∀ (j : Nat) (wr : List Nat), j < ops.toList.length → kd j = some (.ef wr) → ((L.getD j false = true ∨ j = i) ↔ j < e) := by
    intro hn j wr hj hk
    have hne : j ≠ i := fun e2 => by subst e2; exact hn wr hk
    rw [← heff j wr hj hk]
    exact ⟨fun h => h.resolve_right hne, .inl⟩
  have lg : ∀ j k, j < ops.toList.length → kd j = some k → (j, k) ∈ g' := fun j k hj hk => tr.log j k (Nat.zero_le _) hj hk
  have same : ∀ fp, kd i = some (.rd fp) → Same (f i).bx (f e).bx fp := by
    intro fp hk b hb
    rcases Nat.lt_or_ge i e with hie | hie
    · have := between tr (b := b) (e - i) i (by omega) fun j wr h1 h2 h3 hbw => by
        have hjn : j < ops.toList.length := by omega
        have hne : i ≠ j := fun e2 => by subst e2; rw [hk] at h3; cases h3
        have hLj : L.getD j false = true := (heff j wr hjn h3).2 (by omega)
        have hnb : ((bfs ops.toList).getD j 0).testBit i = false := by
          cases hbb : ((bfs ops.toList).getD j 0).testBit i with
          | false => rfl
          | true => exact (after_out j _ (List.getElem?_eq_getElem hjn) hbb hLj).elim
        exact (apart_iff hap (lg i _ hil hk) (lg j _ hjn h3) (by omega) hnb).1 fp wr rfl rfl b hb hbw
      rwa [show i + (e - i) = e by omega] at this
    · have := between tr (b := b) (i - e) e (by omega) fun j wr h1 h2 h3 hbw => by
        have hjn : j < ops.toList.length := by omega
        have hLj : ¬ L.getD j false = true := fun h => by have := (heff j wr hjn h3).1 h; omega
        have hnb : ((bfs ops.toList).getD i 0).testBit j = false := by
          cases hbb : ((bfs ops.toList).getD i 0).testBit j with
          | false => rfl
          | true => exact absurd (before_in j hbb) hLj
        exact (apart_iff hap (lg j _ hjn h3) (lg i _ hil hk) (by omega) hnb).2.1 fp wr rfl rfl b hb hbw
      rw [show e + (i - e) = i by omega] at this
      exact this.symm
  have effbx : ∀ wr, kd i = some (.ef wr) → (f e).bx = (f i).bx ∧ ∀ (j : Nat) (wr : List Nat), j < ops.toList.length → kd j = some (.ef wr) → ((L.getD j false = true ∨ j = i) ↔ j < i + 1) := by
    intro wr0 hk
    have lo : ∀ j wr, j < i → kd j = some (.ef wr) → L.getD j false = true := by
      intro j wr hji hj
      have hjn : j < ops.toList.length := by omega
      cases hbb : ((bfs ops.toList).getD i 0).testBit j with
      | true => exact before_in j hbb
      | false => exact ((apart_iff hap (lg j _ hjn hj) (lg i _ hil hk) hji hbb).2.2 ⟨wr, wr0, rfl, rfl⟩).elim
    have hi : ∀ j wr, i < j → j < ops.toList.length → kd j = some (.ef wr) → ¬ L.getD j false = true := by
      intro j wr hji hjn hj hLj
      cases hbb : ((bfs ops.toList).getD j 0).testBit i with
      | true => exact after_out j _ (List.getElem?_eq_getElem hjn) hbb hLj
      | false => exact (apart_iff hap (lg i _ hil hk) (lg j _ hjn hj) hji hbb).2.2 ⟨wr0, wr, rfl, rfl⟩
    have hei : e ≤ i := by
      rcases Nat.lt_or_ge i e with h | h
      · have := (heff i wr0 hil hk).2 h
        rw [hLi] at this
        cases this
      · exact h
    refine ⟨?_, fun j wr hj hkj => ?_⟩
    · have := between_all tr (i - e) e (by omega) fun j wr h1 h2 h3 => by
        have hjn : j < ops.toList.length := by omega
        have := (heff j wr hjn h3).1 (lo j wr (by omega) h3)
        omega
      rw [show e + (i - e) = i by omega] at this
      exact this.symm
    · rcases Nat.lt_trichotomy j i with h | rfl | h
      · exact ⟨fun _ => by omega, fun _ => .inl (lo j wr h hkj)⟩
      · exact ⟨fun _ => by omega, fun _ => .inr rfl⟩
      · exact ⟨fun h2 => by
          rcases h2 with h2 | h2
          · exact absurd h2 (hi j wr h hj hkj)
          · omega, fun h2 => by omega⟩
  have bx1 : (f (i + 1)).bx = (f (i + 1)).bx := rfl
  unfold wpOp
  rw [ho']
  simp only
  have wtrue : ∀ j want, o.guard = some (j, want) → condOf want (slotv ops.toList (f i).tm j) = some true → Region.wanted o (yielded ops a.tmps) = true := by
    intro j want hgd hc
    exact cond_wanted hmask hgd (by rw [hslot j want hgd]; exact hc)
  have wfalse : ∀ j want, o.guard = some (j, want) → condOf want (slotv ops.toList (f i).tm j) = some false → Region.wanted o (yielded ops a.tmps) = false := by
    intro j want hgd hc
    exact cond_wanted hmask hgd (by rw [hslot j want hgd]; exact hc)
  have hfi : f i = { tm := (f i).tm, bx := (f i).bx } := rfl
  have rd : ∀ ch v T1 fp, aop P H call ops.toList ch o (f i) = some (v, T1, .rd fp) → kd i = some (.rd fp) → aop P H call ops.toList ch o { tm := maskTm (looksOf ops.toList o) (f i).tm, bx := (f e).bx } = some (v, (f e).bx, .rd fp) := by
    intro ch v T1 fp hop hk
    rw [hfi] at hop
    rw [aop_alike halike] at hop
    exact aop_reads (f i).bx (f e).bx v T1 fp hop (same fp hk)
  generalize hT : (f (i + 1)).bx = T at hone
  generalize hx : x i = xx at hone
  generalize hk : kd i = kk at hone
  cases hone with
  | run ch _ _ k hgd hc hop =>
    have hw : Region.wanted o (yielded ops a.tmps) = true := by
      cases hgo : o.guard with
      | none => unfold Region.wanted; rw [hgo]
      | some q => obtain ⟨j, want⟩ := q; exact wtrue j want hgo (hgd j want hgo)
    rw [if_pos hw]
    refine .inl ?_
    cases k with
    | rd fp =>
      have hop2 := rd ch _ _ fp hop hk
      exact aop_ok hcall (hmask.at (hch ch hc)) hgf hop2 fun v w1 Γ1 h1 h2 h3 => fin e v w1 Γ1 hen h1 h2 (by rw [hx]; exact h3) (quiet fun wr h => by rw [hk] at h; cases h)
    | ef wr =>
      obtain ⟨h1, h2⟩ := effbx wr hk
      have hop2 := hop
      rw [hfi, aop_alike halike, ← h1] at hop2
      exact aop_ok hcall (hmask.at (hch ch hc)) hgf hop2 fun v w1 Γ1 h3 h4 h5 => fin (i + 1) v w1 Γ1 (by omega) (by rw [hT]; exact h3) h4 (by rw [hx]; exact h5) h2
  | gdT ch j want v fp hgd hcc hc hop =>
    rw [if_pos (wtrue j want hgd hcc)]
    have hop2 := rd ch v _ fp hop hk
    exact .inl (aop_ok hcall (hmask.at (hch ch hc)) hgf hop2 fun v1 w1 Γ1 h1 h2 h3 => fin e v1 w1 Γ1 hen h1 h2 (by rw [hx]; exact rep_gd (fun _ => h3) (fun e => by cases e)) (quiet fun wr h => by rw [hk] at h; cases h))
  | gdF j want v fp hgd hcc =>
    rw [if_neg (by rw [wfalse j want hgd hcc]; simp)]
    exact fin e undef w Γ hen hs.T (Step.refl hs.inv) (by rw [hx]; exact rep_gd (fun e => by cases e) (fun _ => rfl)) (quiet fun wr h => by rw [hk] at h; cases h)
  | skip j want hgd hcc =>
    rw [if_neg (by rw [wfalse j want hgd hcc]; simp)]
    exact fin e undef w Γ hen hs.T (Step.refl hs.inv) (by rw [hx]; exact rep_unit Γ w) (quiet fun wr h => by rw [hk] at h; cases h)
end
end Go.Im

namespace Go.Im
open Go
set_option linter.unusedVariables false
set_option linter.unusedSimpArgs false
set_option linter.unnecessarySimpa false
set_option linter.unusedSectionVars false
section
variable {P : Program} {H : Hint} {call : CallF} {ops : Array Oper} {s s' : St} {g' : Log} {f : Nat → St} {x : Nat → IV} {kd : Nat → Option Kd}

def cnt (n : Nat) (L : Array Bool) : Nat := ((List.range n).filter fun i => !L.getD i false).length

theorem cnt_set {n : Nat} {L : Array Bool} {i : Nat} (hi : i < n) (hs : L.size = n) (h : L.getD i false = false) : cnt n (L.setIfInBounds i true) < cnt n L := by
  unfold cnt
  have he : ((List.range n).filter fun j => !(L.setIfInBounds i true).getD j false) = ((List.range n).filter fun j => !L.getD j false).filter (fun j => decide (j ≠ i)) := by
    rw [List.filter_filter]
    apply List.filter_congr
    intro j hj
    simp only [Array.getD_eq_getD_getElem?, Array.getElem?_setIfInBounds]
    by_cases e : i = j
    · subst e
      simp [hs, hi]
    · simp [e, Ne.symm e]
  rw [he]
  exact List.length_filter_lt_length_iff_exists.2 ⟨i, List.mem_filter.2 ⟨List.mem_range.2 hi, by rw [h]; rfl⟩, by simp⟩

theorem ready_iff {L : Array Bool} {i : Nat} : i ∈ Region.ready .any ops L ↔ i < ops.size ∧ L.getD i true = false ∧ ∃ o, ops[i]? = some o ∧ ∀ e ∈ o.after.toList, Region.binds .any e = true → L.getD e.on false = true := by
  unfold Region.ready
  rw [List.mem_filter, List.mem_range]
  constructor
  · rintro ⟨h1, h2⟩
    simp only [Bool.and_eq_true, Bool.not_eq_true'] at h2
    refine ⟨h1, h2.1, ops[i], Array.getElem?_eq_getElem h1, fun e he hb => ?_⟩
    have h3 := h2.2
    rw [Array.getElem?_eq_getElem h1] at h3
    simp only [Option.map_some, Option.getD_some, Array.all_eq_true_iff_forall_mem] at h3
    have := h3 e (by simpa using he)
    rw [hb] at this
    simpa using this
  · rintro ⟨h1, h2, o, h3, h4⟩
    refine ⟨h1, ?_⟩
    rw [h2, h3]
    simp only [Option.map_some, Option.getD_some, Bool.not_false, Bool.true_and, Array.all_eq_true_iff_forall_mem]
    intro e he
    cases hb : Region.binds .any e with
    | false => rfl
    | true =>
      have := h4 e (by simpa using he) hb
      rw [this]
      rfl

theorem all_listed (hd : DrawOK ops.toList) {L : Array Bool} (hs : L.size = ops.size) (hr : Region.ready .any ops L = []) : ∀ i, i < ops.size → L.getD i false = true := by
  intro i
  induction i using Nat.strongRecOn with
  | _ i ih =>
    intro hi
    have ho : ops[i]? = some ops[i] := Array.getElem?_eq_getElem hi
    cases hl : L.getD i true with
    | true =>
      have hiL : i < L.size := by omega
      simp only [Array.getD, hiL, dif_pos] at hl ⊢
      exact hl
    | false =>
      have : i ∈ Region.ready .any ops L := ready_iff.2 ⟨hi, hl, _, ho, fun e he hb => by
        have hlt := hd.back i _ (by simpa using ho) e he hb
        exact ih e.on hlt (by omega)⟩
      rw [hr] at this
      cases this

theorem any_ok (hcall : CallOK P H call) (hg : guardsOK ops.toList = true) (hd : DrawOK ops.toList) (hap : apartB ops.toList g' = true) (tr : Trace P H call ops.toList 0 s ops.toList.length s' g' f x kd)
    {Γ0 : Cx} {w0 : World} {Q : Exit → Act → World → Prop} (hQ : ∀ L a w, J H ops s f x kd Γ0 w0 L a w → (∀ i, i < ops.size → L.getD i false = true) → Q .normal a w) :
    ∀ (fuel : Nat) (L : Array Bool) (a : Act) (w : World), cnt ops.size L ≤ fuel → J H ops s f x kd Γ0 w0 L a w → wpAny P .any ops Q fuel L a w
  | 0, L, a, w, hc, h => by
    have hall : ∀ i, i < ops.size → L.getD i false = true := by
      intro i hi
      cases hl : L.getD i false with
      | true => rfl
      | false =>
        have hm : i ∈ (List.range ops.size).filter fun j => !L.getD j false := List.mem_filter.2 ⟨List.mem_range.2 hi, by rw [hl]; rfl⟩
        have : (List.range ops.size).filter (fun j => !L.getD j false) = [] := List.eq_nil_of_length_eq_zero (by unfold cnt at hc; omega)
        rw [this] at hm
        cases hm
    refine ⟨?_, hQ L a w h hall⟩
    cases hr : Region.ready .any ops L with
    | nil => rfl
    | cons i rest =>
      have hm : i ∈ Region.ready .any ops L := by rw [hr]; exact List.mem_cons_self ..
      obtain ⟨h1, h2, _⟩ := ready_iff.1 hm
      have h3 := hall i h1
      have hiL : i < L.size := by rw [h.size]; exact h1
      simp only [Array.getD, hiL, dif_pos] at h2 h3
      rw [h2] at h3
      cases h3
  | fuel + 1, L, a, w, hc, h => by
    refine ⟨fun hr => hQ L a w h (all_listed hd h.size hr), fun i hi => ?_⟩
    obtain ⟨h1, h2, o, h3, h4⟩ := ready_iff.1 hi
    refine any_step hcall hg hd hap tr h (by simpa using h3) h2 h4 fun a' w' hJ => any_ok hcall hg hd hap tr hQ fuel _ a' w' ?_ hJ
    have hiL : i < L.size := by rw [h.size]; exact h1
    have hl : L.getD i false = false := by
      simp only [Array.getD, hiL, dif_pos] at h2 ⊢
      exact h2
    have := cnt_set h1 h.size hl
    omega

theorem nogd_of {ops : List Oper} {n : Nat} {tm : List IV} (h : RInv ops n tm) (hn : noGuard ops = true) : NoGd tm := by
  intro t j w c y hy
  obtain ⟨_, ⟨k, o, w', h1, h2⟩, _⟩ := h.gd t j w c y hy
  have := List.all_eq_true.1 hn o (List.mem_of_getElem? h1)
  rw [h2] at this
  cases this

theorem nogd_drop (tm : List IV) : NoGd (tm.map dropGd) := by
  intro t j w c y hy
  simp only [List.getElem?_map] at hy
  obtain ⟨z, _, e⟩ := Option.map_eq_some_iff.1 hy
  cases z <;> cases e

/-- REGIONS ARE SOUND. -/
theorem reg_ok (hm : P.follows .mixedOrders = true) (hcall : CallOK P H call) : RegOK P H call := by
  intro id ops draw s s' Γ w a Q h hs hn k
  unfold aregion at h
  split at h
  · cases h
  · rename_i hg
    split at h
    · cases h
    · rename_i s1 g1 hops
      obtain ⟨_, f, x, kd, tr⟩ := trace_of hg ops.toList 0 s [] s1 g1 rfl hops (hn.rinv _)
      rw [Nat.zero_add] at tr
      have post : ∀ (a' : Act) (w' : World) (Γ' : Cx), Step Γ w Γ' w' → Sat H Γ' w' s1 a' → (match noGuard ops.toList with | true => some s1 | false => force (s1.tm.map dropGd) fun tm => some { tm := tm, bx := s1.bx }) = some s' → Q .normal a' w' := by
        intro a' w' Γ' hst hsat h
        split at h
        · rename_i hng
          cases h
          exact k a' w' Γ' hst hsat (nogd_of tr.last hng)
        · rw [force_eq] at h
          cases h
          exact k a' w' Γ' hst (dropGd_sat hsat) (nogd_drop _)
      split at h
      · cases h
      · rename_i hdr
        cases draw with
        | false =>
          refine wp_region ?_
          have := aops_ok (Q := Q) hcall hg ops.toList 0 s [] s1 g1 Γ w a rfl hops hs (hn.rinv _) fun a' w' Γ' hst hsat => post a' w' Γ' hst hsat h
          rwa [← List.range_eq_range', Array.length_toList] at this
        | true =>
          simp only [Bool.and_eq_true] at hdr
          have hd := drawOK_iff hdr.1
          refine wp_region_any hm ?_
          have S0 : Step Γ w Γ { w with drawn := w.drawn + 1 } := Step.same hs.inv rfl rfl rfl rfl
          have hs0 : Sat H Γ { w with drawn := w.drawn + 1 } s a := ⟨S0.inv, hs.T, hs.tm.ext S0.ext, hs.gl.ext S0.ext, hs.df⟩
          refine any_ok hcall hg hd hdr.2 tr (Γ0 := Γ) (w0 := w) ?_ ops.size _ a _ ?_ ?_
          · intro L a' w' hJ hall
            obtain ⟨hsz, hcl, Γ', m, e, hsat, hst, hsl, hen, heff⟩ := hJ
            have hfin := trace_slots hd tr ops.toList.length (Nat.le_refl _)
            have hm1 : m = (f ops.toList.length).tm := by
              apply List.ext_getElem?
              intro t
              refine slots_alike hsl hfin hd t fun j o hj _ => ?_
              have hlt := (List.getElem?_eq_some_iff.1 hj).1
              exact ⟨fun _ => hlt, fun _ => hall j (by simpa using hlt)⟩
            have hbx : (f e).bx = (f ops.toList.length).bx := by
              have := between_all tr (ops.toList.length - e) e (by omega) fun j wr h1 h2 h3 => by
                have hjn : j < ops.toList.length := by omega
                have hjs : j < ops.size := by simpa using hjn
                have := (heff j wr hjn h3).1 (hall j hjs)
                omega
              rw [show e + (ops.toList.length - e) = ops.toList.length by omega] at this
              exact this.symm
            rw [hm1, hbx] at hsat
            rw [tr.hn] at hsat
            exact post a' w' Γ' hst hsat h
          · unfold cnt
            have := List.length_filter_le (fun i => !(Array.replicate ops.size false).getD i false) (List.range ops.size)
            simpa using this
          · have hz : ∀ i, (Array.replicate ops.size false).getD i false = false := by
              intro i
              simp only [Array.getD_eq_getD_getElem?, Array.getElem?_replicate]
              split <;> rfl
            refine ⟨by simp, (fun i o _ hL => by rw [hz] at hL; cases hL), Γ, s.tm, 0, ?_, S0, ?_, Nat.zero_le _, fun j wr _ _ => ?_⟩
            · rw [tr.h0]
              exact hs0
            · exact ⟨rfl, (fun j o d _ _ hL => by simp only [hz] at hL; cases hL), fun t _ => rfl⟩
            · rw [hz]
              exact ⟨(fun h => by cases h), fun h => absurd h (Nat.not_lt_zero _)⟩

/-- THE IDEAL MACHINE IS SOUND. -/
theorem sound (hm : P.follows .mixedOrders = true) (hng : ∀ (f : FuncId) (fn : Func), P.funcs[f]? = some fn → fn.body.isSome = true → fn.name ≠ "runtime.NumGoroutine")
    {ovr : FuncId → Option CallF} (hovr : OvrOK P H ovr) (k : Nat) : CallOK P H (acall P H ovr k) :=
  acall_ok (fun call hc => reg_ok hm hc) hng hovr k
end
end Go.Im

namespace Go.Im
open Go
set_option linter.unusedVariables false
set_option linter.unusedSimpArgs false
set_option linter.unnecessarySimpa false
set_option linter.unusedSectionVars false

/-! ### What the arguments may be -/
def FieldsT (T : TypeId → List IV → Prop) : List Field → List IV → Prop
  | [], l => l = []
  | f :: fs, l => ∃ a b, l = a ++ b ∧ T f.type a ∧ FieldsT T fs b
def ArrT (T : List IV → Prop) : Nat → List IV → Prop
  | 0, l => l = []
  | m + 1, l => ∃ a b, l = a ++ b ∧ T a ∧ ArrT T m b
/-- The cells of a value of a type. -/
def Ty (P : Program) : Nat → TypeId → List IV → Prop
  | 0, _, _ => False
  | n + 1, t, l => match P.underlying t with
    | some .bool => ∃ b, l = [.bool b]
    | some (.int k) => ∃ i, l = [.int k i] ∧ (Lit.int k i).wf = true
    | some .string => ∃ s : List UInt8, l = [.str s] ∧ s.length ≤ reachBytes
    | some (.slice e) => ∃ nl cl es, l = [.fsl (some nl) cl (P.cellsOf e) es] ∧ (nl = true → es = [] ∧ cl = true) ∧ es.length * P.bytesOf e ≤ reachBytes ∧ es.length ≤ maxLen ∧
        ∀ x ∈ es, ∃ cs, pack P e cs = some x ∧ cellsOK cs = true ∧ Ty P n e cs
    | some (.struct fs) => FieldsT (Ty P n) fs.toList l
    | some (.array m e) => ArrT (Ty P n e) m l
    | _ => False

def layEnd (P : Program) : Nat → List Field → Option Nat
  | o, [] => some o
  | o, f :: fs => match Nat.beq f.offset o with
    | true => layEnd P (o + P.cellsOf f.type) fs
    | false => none
/-- Types that are told of here, closed under what they are made of. -/
def typesOK (P : Program) (L : List TypeId) : Bool := L.all fun t => match P.underlying t with
  | some .bool | some (.int _) | some .string => true
  | some (.slice e) => L.contains e && Nat.blt 0 (P.cellsOf e)
  | some (.struct fs) => (fs.toList.all fun f => L.contains f.type) && (match layEnd P 0 fs.toList with | some n => Nat.beq n (P.cellsOf t) | none => false)
  | some (.array m e) => L.contains e && Nat.beq (m * P.cellsOf e) (P.cellsOf t)
  | _ => false

theorem len_sub {len j : Nat} (h : j + 1 ≤ len) : len - j = (len - (j + 1)) + 1 := by omega
theorem cellsOK_append {a b : List IV} (ha : cellsOK a = true) (hb : cellsOK b = true) : cellsOK (a ++ b) = true := by
  simp only [cellsOK, List.all_append, Bool.and_eq_true] at *
  exact ⟨ha, hb⟩

section
variable {H : Type} {enc : TypeId × Value → H} {P : Program} {w : World} {held : Bool} {ok : Nat → Prop} {sp : Nat → Bool}

theorem weights_each {b : Nat} : ∀ (ts : List TypeId) (ds : List (DataW H)), (DataW.weightsEach P ts ds).all (· ≤ b) = true → ∀ (i : Nat) t d, ts[i]? = some t → ds[i]? = some d → (d.weights P t).all (· ≤ b) = true
  | [], _, _, i, t, d, h1, _ => by simp at h1
  | _ :: _, [], _, i, t, d, _, h2 => by simp at h2
  | t :: ts, d :: ds, h, i, u, x, h1, h2 => by
    simp only [DataW.weightsEach, List.all_append, Bool.and_eq_true] at h
    cases i with
    | zero => simp at h1 h2; subst h1 h2; exact h.1
    | succ i => exact weights_each ts ds h.2 i u x (by simpa using h1) (by simpa using h2)
theorem weights_all {b : Nat} {e : TypeId} : ∀ (ds : List (DataW H)), (DataW.weightsAll P e ds).all (· ≤ b) = true → ∀ (i : Nat) d, ds[i]? = some d → (d.weights P e).all (· ≤ b) = true
  | [], _, i, d, h2 => by simp at h2
  | d :: ds, h, i, x, h2 => by
    simp only [DataW.weightsAll, List.all_append, Bool.and_eq_true] at h
    cases i with
    | zero => simp at h2; subst h2; exact h.1
    | succ i => exact weights_all ds h.2 i x (by simpa using h2)

/-- A struct's cells out of its fields'. -/
theorem fields_of {n : Nat} {L : List TypeId} (cs : List Value)
    (ih : ∀ t (us : List Value) (d : DataW H) ps, t ∈ L → DataW.trod enc P w 0 sp held n t us = some (d, ps) → (d.weights P t).all (· ≤ reachBytes) = true →
      ∃ l x, RepCL ok w l us ∧ cellsOK l = true ∧ Ty P n t l ∧ pack P t l = some x) :
    ∀ (fs : List Field) (xs : List (DataW H × List MemPlace)) (o e : Nat), layEnd P o fs = some e → e = cs.length → (∀ f ∈ fs, f.type ∈ L) → xs.length = fs.length →
      (∀ (i : Nat) (f : Field), fs[i]? = some f → DataW.trod enc P w 0 sp held n f.type ((cs.drop f.offset).take (P.cellsOf f.type)) = xs[i]?) →
      (DataW.weightsEach P (fs.map (·.type)) (xs.map (·.1))).all (· ≤ reachBytes) = true → o ≤ cs.length →
      ∃ l, RepCL ok w l (cs.drop o) ∧ cellsOK l = true ∧ FieldsT (Ty P n) fs l
  | [], xs, o, e, h1, h2, _, _, _, _, _ => by
    simp only [layEnd, Option.some.injEq] at h1
    refine ⟨[], ?_, rfl, rfl⟩
    simp only [RepCL]
    rw [h1, h2, List.drop_length]
  | f :: fs, [], _, _, _, _, _, hl, _, _, _ => by simp at hl
  | f :: fs, x :: xs, o, e, h1, h2, hL, hl, hx, hw, ho => by
    simp only [layEnd] at h1
    split at h1
    · rename_i hb
      have hb := Nat.eq_of_beq_eq_true hb
      have h0 := hx 0 f rfl
      simp only [List.getElem?_cons_zero] at h0
      simp only [List.map_cons, DataW.weightsEach, List.all_append, Bool.and_eq_true] at hw
      obtain ⟨l, y, k1, k2, k3, k4⟩ := ih f.type _ x.1 x.2 (hL f (List.mem_cons_self ..)) h0 hw.1
      have hn : o + P.cellsOf f.type ≤ cs.length := by
        rw [← h2]
        clear ih hx hw h0 k1 k2 k3 k4 hL hl h2 ho
        have : ∀ (fs : List Field) (a e : Nat), layEnd P a fs = some e → a ≤ e := by
          intro fs
          induction fs with
          | nil => intro a e h; simp only [layEnd, Option.some.injEq] at h; omega
          | cons f fs ih =>
            intro a e h
            simp only [layEnd] at h
            split at h
            · have := ih _ _ h; omega
            · cases h
        exact this _ _ _ h1
      obtain ⟨m, m1, m2, m3⟩ := fields_of cs ih fs xs _ e h1 h2 (fun g hg => hL g (List.mem_cons_of_mem _ hg)) (by simpa using hl) (fun i g hg => by
        have := hx (i + 1) g (by simpa using hg)
        simpa using this) hw.2 hn
      refine ⟨l ++ m, ?_, cellsOK_append k2 m2, ⟨l, m, rfl, k3, m3⟩⟩
      have : cs.drop o = (cs.drop f.offset).take (P.cellsOf f.type) ++ cs.drop (o + P.cellsOf f.type) := by
        rw [hb, ← List.drop_drop, List.take_append_drop]
      rw [this]
      exact repCL_append k1 m1
    · cases h1

theorem arr_of {n e : Nat} (cs : List Value)
    (ih : ∀ (us : List Value) (d : DataW H) ps, DataW.trod enc P w 0 sp held n e us = some (d, ps) → (d.weights P e).all (· ≤ reachBytes) = true →
      ∃ l x, RepCL ok w l us ∧ cellsOK l = true ∧ Ty P n e l ∧ pack P e l = some x) :
    ∀ (m j : Nat) (xs : List (DataW H × List MemPlace)), (j + m) * P.cellsOf e = cs.length → xs.length = m →
      (∀ (i : Nat), i < m → DataW.trod enc P w 0 sp held n e ((cs.drop ((j + i) * P.cellsOf e)).take (P.cellsOf e)) = xs[i]?) →
      (DataW.weightsAll P e (xs.map (·.1))).all (· ≤ reachBytes) = true →
      ∃ l, RepCL ok w l (cs.drop (j * P.cellsOf e)) ∧ cellsOK l = true ∧ ArrT (Ty P n e) m l
  | 0, j, xs, h1, _, _, _ => by
    refine ⟨[], ?_, rfl, rfl⟩
    simp only [RepCL]
    rw [show j * P.cellsOf e = cs.length from h1, List.drop_length]
  | m + 1, j, [], _, hl, _, _ => by simp at hl
  | m + 1, j, x :: xs, h1, hl, hx, hw => by
    have h0 := hx 0 (by omega)
    simp only [List.getElem?_cons_zero] at h0
    simp only [List.map_cons, DataW.weightsAll, List.all_append, Bool.and_eq_true] at hw
    obtain ⟨l, y, k1, k2, k3, k4⟩ := ih _ x.1 x.2 h0 hw.1
    obtain ⟨q, m1, m2, m3⟩ := arr_of cs ih m (j + 1) xs (by rw [← h1]; congr 1; omega) (by simpa using hl) (fun i hi => by
      have := hx (i + 1) (by omega)
      rw [show j + 1 + i = j + (i + 1) by omega]
      simpa using this) hw.2
    refine ⟨l ++ q, ?_, cellsOK_append k2 m2, ⟨l, q, rfl, k3, m3⟩⟩
    have : cs.drop (j * P.cellsOf e) = (cs.drop ((j + 0) * P.cellsOf e)).take (P.cellsOf e) ++ cs.drop ((j + 1) * P.cellsOf e) := by
      rw [Nat.add_zero, Nat.add_mul, Nat.one_mul, ← List.drop_drop, List.take_append_drop]
    rw [this]
    exact repCL_append k1 m1

theorem pack_leaf {t : TypeId} {y : IV} (h : isAggT P t = some false) : pack P t [y] = some y := by
  simp [pack, h]

theorem pack_agg' {t : TypeId} {l : List IV} (h : isAggT P t = some true) (hl : l.length = P.cellsOf t) : pack P t l = some (.agg l) := by
  simp only [pack, h]
  rw [if_pos (by simpa [sizeAt, Program.cellsOf] using hl)]

theorem pack_cells' {e : TypeId} {cs : List IV} {x : IV} (h : pack P e cs = some x) (hc : cellsOK cs = true) : x.cells = cs := by
  rcases pack_some h with ⟨_, _, rfl⟩ | ⟨_, rfl⟩
  · rfl
  · simp only [cellsOK, List.all_cons, List.all_nil, Bool.and_true] at hc
    rw [leaf_cells hc]

/-- WHAT IS READ, AS THE IDEAL MACHINE HAS IT. -/
theorem ty_of_trod {L : List TypeId} (hL : typesOK P L = true) (hok : ∀ g, g < w.heap.size → ok g) : ∀ (n : Nat) t (cs : List Value) (d : DataW H) ps, t ∈ L → DataW.trod enc P w 0 (fun _ => true) held n t cs = some (d, ps) →
    (d.weights P t).all (· ≤ reachBytes) = true → ∃ l x, RepCL ok w l cs ∧ cellsOK l = true ∧ Ty P n t l ∧ pack P t l = some x
  | 0, t, cs, d, ps, _, h, _ => by simp [DataW.trod] at h
  | n + 1, t, cs, d, ps, ht, h, hw => by
    have ih := ty_of_trod hL hok n
    have one : ∀ (y : IV) (v : Value), leaf y = true → RepC ok w y v → RepCL ok w [y] [v] ∧ cellsOK [y] = true := by
      intro y v h1 h2
      refine ⟨by simp only [RepCL]; exact ⟨v, [], rfl, h2, rfl⟩, by simp [cellsOK, h1]⟩
    have hT := List.all_eq_true.1 hL t ht
    split at hT
    · rename_i hu
      obtain ⟨b, rfl, e⟩ := DataW.trod_bool hu h
      obtain ⟨k1, k2⟩ := one (.bool b) (.bool b) rfl (by simp [RepC])
      refine ⟨_, _, k1, k2, ?_, pack_leaf (by simp [isAggT, hu])⟩
      unfold Ty; rw [hu]; exact ⟨b, rfl⟩
    · rename_i k hu
      obtain ⟨i, rfl, e, hwf⟩ := DataW.trod_int hu h
      obtain ⟨k1, k2⟩ := one (.int k i) (.int k i) rfl (by simp [RepC])
      refine ⟨_, _, k1, k2, ?_, pack_leaf (by simp [isAggT, hu])⟩
      unfold Ty; rw [hu]; exact ⟨i, rfl, hwf⟩
    · rename_i hu
      obtain ⟨s, rfl, e, hs⟩ := DataW.trod_string hu h
      cases e
      obtain ⟨k1, k2⟩ := one (.str s.data.toList) (.string s) rfl (by simp [RepC])
      refine ⟨_, _, k1, k2, ?_, pack_leaf (by simp [isAggT, hu])⟩
      unfold Ty; rw [hu]
      refine ⟨_, rfl, ?_⟩
      simpa [DataW.weights] using hw
    · rename_i e hu
      simp only [Bool.and_eq_true, List.contains_iff_mem] at hT
      obtain ⟨he, hz⟩ := hT
      have hz : 0 < P.cellsOf e := by simpa [Nat.blt_eq] using hz
      rcases DataW.trod_slice hu h with ⟨rfl, hx⟩ | ⟨a, len, cap, elems, rest, m, hm, rfl, hx, hb, hlc, hcm, hlen, hel, hre, _⟩
      · cases hx
        obtain ⟨k1, k2⟩ := one (.fsl (some true) true (P.cellsOf e) []) (.slice none 0 0) rfl (by simp [RepC])
        refine ⟨_, _, k1, k2, ?_, pack_leaf (by simp [isAggT, hu])⟩
        unfold Ty; rw [hu]
        refine ⟨true, true, [], rfl, fun _ => ⟨rfl, rfl⟩, ?_, ?_, fun x hx => by cases hx⟩
        · simp
        · simp
      · obtain rfl : n = m := by omega
        simp only [Prod.mk.injEq] at hx
        obtain ⟨rfl, _⟩ := hx
        have hw0 := hw
        simp only [DataW.weights, hu, List.all_cons, List.all_append, Bool.and_eq_true, decide_eq_true_eq, List.length_map] at hw
        obtain ⟨hw1, hw2, _⟩ := hw
        obtain ⟨hr1, hr2⟩ := hre rfl
        have hsp : 0 < len → a.spot = none ∧ a.block < w.heap.size := by
          intro h0l
          have h0 := hel 0 h0l
          cases hy : elems[0]? with
          | none => rw [List.getElem?_eq_none_iff] at hy; omega
          | some y =>
            rw [hy] at h0
            obtain ⟨vs, h1, h2⟩ := Option.bind_eq_some_iff.1 h0
            simp only [World.cells?, Nat.zero_le, if_true] at h1
            have := mapM_some_get h1 0 0 (by simp [hz])
            have hvl := mapM_some_length h1
            simp only [List.length_range] at hvl
            rw [List.getElem?_eq_getElem (by omega)] at this
            simp only [Nat.zero_mul, Addr.add, if_true] at this
            refine ⟨World.cell?_spot this, ?_⟩
            simp only [World.cell?] at this
            split at this
            · rename_i h9
              exact (Array.getElem?_eq_some_iff.1 h9).1
            · cases this
        have hes : ∀ j, j ≤ len → ∃ es : List IV, es.length = j ∧ (∀ x ∈ es, ∃ cs, pack P e cs = some x ∧ cellsOK cs = true ∧ Ty P n e cs) ∧
            (j = 0 ∨ (a.spot = none ∧ ok a.block ∧ RepEs ok w (P.cellsOf e) a.block (a.off + (len - j) * P.cellsOf e) es)) := by
          intro j
          induction j with
          | zero => intro _; exact ⟨[], rfl, fun x hx => (by cases hx), .inl rfl⟩
          | succ j ihj =>
            intro hj
            obtain ⟨es, q1, q2, q3⟩ := ihj (by omega)
            have hlt : len - (j + 1) < len := by omega
            have h0 := hel _ hlt
            cases hy : elems[len - (j + 1)]? with
            | none => rw [List.getElem?_eq_none_iff] at hy; omega
            | some y =>
              rw [hy] at h0
              obtain ⟨vs, h1, h2⟩ := Option.bind_eq_some_iff.1 h0
              obtain ⟨l, x, k1, k2, k3, k4⟩ := ih e vs y.1 y.2 he h2 (weights_all _ hw2 (len - (j + 1)) y.1 (by rw [List.getElem?_map, hy]; rfl))
              have hvl : vs.length = P.cellsOf e := by
                simp only [World.cells?, Nat.zero_le, if_true] at h1
                rw [mapM_some_length h1]; simp
              have hcell : ∀ i v, vs[i]? = some v → w.cell? ((a.add ((len - (j + 1)) * P.cellsOf e)).add i) = some v := by
                intro i v hi
                simp only [World.cells?, Nat.zero_le, if_true] at h1
                have hil : i < P.cellsOf e := by rw [← hvl]; exact (List.getElem?_eq_some_iff.1 hi).1
                have := mapM_some_get h1 i i (by simp [hil])
                rw [hi] at this
                exact this
              obtain ⟨v0, hv0⟩ : ∃ v0, vs[0]? = some v0 := ⟨_, List.getElem?_eq_getElem (by omega)⟩
              have hc0 := hcell 0 v0 hv0
              obtain ⟨hspot, hblk⟩ := hsp (by omega)
              refine ⟨x :: es, by simp [q1], ?_, .inr ⟨hspot, hok _ hblk, ?_⟩⟩
              · intro z hz
                rcases List.mem_cons.1 hz with rfl | hz
                · exact ⟨l, k4, k2, k3⟩
                · exact q2 z hz
              · rw [RepEs_cons]
                obtain ⟨ab, ao, as⟩ := a
                simp only at hspot
                subst hspot
                have hcells := pack_cells' k4 k2
                refine ⟨⟨by rw [hcells, ← repCL_len _ _ k1, hvl], ?_⟩, ?_⟩
                · rw [hcells]
                  refine repCs_of l vs _ k2 k1 fun i v hi => ?_
                  have := hcell i v hi
                  rw [add_lit', add_lit'] at this
                  exact this
                · rcases q3 with rfl | ⟨_, _, q3⟩
                  · have : es = [] := List.eq_nil_of_length_eq_zero q1
                    subst this
                    simp only [RepEs]
                  · have e0 : len - j = (len - (j + 1)) + 1 := len_sub hj
                    rw [e0, Nat.add_mul, Nat.one_mul, ← Nat.add_assoc] at q3
                    exact q3
        obtain ⟨es, q1, q2, q3⟩ := hes len (Nat.le_refl _)
        obtain ⟨k1, k2⟩ := one (.fsl (some false) rest.isEmpty (P.cellsOf e) es) (.slice (some a) len cap) rfl (by
          simp only [RepC]
          refine ⟨some a, cap, by rw [q1], by omega, fun hcl => ?_, (fun h => by cases h), (fun _ h => by cases h), ?_⟩
          · have : rest = [] := by simpa using hcl
            subst this
            simp at hr1
            omega
          · rcases q3 with rfl | ⟨q3, q4, q5⟩
            · exact .inl (List.eq_nil_of_length_eq_zero q1)
            · refine .inr ⟨a.block, a.off, ?_, q4, ?_⟩
              · obtain ⟨ab, ao, as⟩ := a
                simp only at q3
                subst q3
                rfl
              · simpa using q5)
        refine ⟨_, _, k1, k2, ?_, pack_leaf (by simp [isAggT, hu])⟩
        unfold Ty; rw [hu]
        refine ⟨false, rest.isEmpty, es, rfl, (fun h => by cases h), ?_, by omega, q2⟩
        have : es.length ≤ elems.length + rest.length := by omega
        exact Nat.le_trans (Nat.mul_le_mul_right _ this) hw1
    · rename_i fs hu
      simp only [Bool.and_eq_true, List.all_eq_true, List.contains_iff_mem] at hT
      obtain ⟨hT1, hT2⟩ := hT
      obtain ⟨xs, m, hm, hx, hcl, hxl, hxs⟩ := DataW.trod_struct hu h
      obtain rfl : n = m := by omega
      simp only [Prod.mk.injEq] at hx
      obtain ⟨rfl, _⟩ := hx
      simp only [DataW.weights, hu] at hw
      split at hT2
      · rename_i en hen
        have hen2 := Nat.eq_of_beq_eq_true hT2
        obtain ⟨l, k1, k2, k3⟩ := fields_of (ok := ok) cs ih fs.toList xs 0 en hen (by rw [hen2, hcl]) hT1 (by simpa using hxl) (fun i f hf => hxs i f (by simpa using hf)) hw (Nat.zero_le _)
        rw [List.drop_zero] at k1
        refine ⟨l, .agg l, k1, k2, ?_, pack_agg' (by simp [isAggT, hu]) ?_⟩
        · unfold Ty; rw [hu]; exact k3
        · rw [← repCL_len _ _ k1, hcl]
      · cases hT2
    · rename_i m e hu
      simp only [Bool.and_eq_true, List.contains_iff_mem] at hT
      obtain ⟨he, hz⟩ := hT
      have hz := Nat.eq_of_beq_eq_true hz
      obtain ⟨xs, q, hm, hx, hcl, hxl, hxs⟩ := DataW.trod_array hu h
      obtain rfl : n = q := by omega
      simp only [Prod.mk.injEq] at hx
      obtain ⟨rfl, _⟩ := hx
      simp only [DataW.weights, hu] at hw
      obtain ⟨l, k1, k2, k3⟩ := arr_of (ok := ok) cs (fun us d ps h hw => ih e us d ps he h hw) m 0 xs (by rw [Nat.zero_add, hz, hcl]) hxl (fun i hi => by rw [Nat.zero_add]; exact hxs i hi) hw
      rw [Nat.zero_mul, List.drop_zero] at k1
      refine ⟨l, .agg l, k1, k2, ?_, pack_agg' (by simp [isAggT, hu]) ?_⟩
      · unfold Ty; rw [hu]; exact k3
      · rw [← repCL_len _ _ k1, hcl]
    · cases hT

/-- A value of a type, out of its cells. -/
theorem repL_of_args {L : List TypeId} (hL : typesOK P L = true) {Γ : Cx} (hok : ∀ g, g < w.heap.size → Γ.ok g) {base : Nat} :
    ∀ (ts : List TypeId) (vs : List Value) (ds : List (DataW H)) (ps : List MemPlace), (∀ t ∈ ts, t ∈ L) →
      (∀ (j : Nat) t v, ts[j]? = some t → vs[j]? = some v → Value.okWide P w .any base t v) →
      DataW.TrodAll enc P w 0 (fun _ => true) true ts vs ds ps → (DataW.weightsEach P ts ds).all (· ≤ reachBytes) = true →
      ∃ as : List IV, RepL Γ w as vs ∧ NoGd as ∧ as.length = ts.length ∧ ∀ (i : Nat) t, ts[i]? = some t → ∃ n l x, Ty P n t l ∧ pack P t l = some x ∧ cellsOK l = true ∧ as[i]? = some x
  | [], [], [], _, _, _, _, _ => ⟨[], by simp [RepL], by intro t j w c x h; simp at h, rfl, fun i t h => by simp at h⟩
  | [], [], _ :: _, _, _, _, h, _ => by simp [DataW.TrodAll] at h
  | [], _ :: _, _, _, _, _, h, _ => by simp [DataW.TrodAll] at h
  | _ :: _, [], _, _, _, _, h, _ => by simp [DataW.TrodAll] at h
  | _ :: _, _ :: _, [], _, _, _, h, _ => by simp [DataW.TrodAll] at h
  | t :: ts, v :: vs, d :: ds, ps, hm, ho, h, hw => by
    simp only [DataW.TrodAll] at h
    obtain ⟨p, q, ⟨n, h1⟩, h2, rfl⟩ := h
    simp only [DataW.weightsEach, List.all_append, Bool.and_eq_true] at hw
    obtain ⟨l, x, k1, k2, k3, k4⟩ := ty_of_trod (ok := Γ.ok) hL hok n t _ d p (hm t (List.mem_cons_self ..)) h1 hw.1
    obtain ⟨as, m1, m2, m3, m4⟩ := repL_of_args hL hok ts vs ds q (fun u hu => hm u (List.mem_cons_of_mem _ hu)) (fun j u z hu hz => ho (j + 1) u z (by simpa using hu) (by simpa using hz)) h2 hw.2
    have hv := ho 0 t v rfl rfl
    have hx : Rep Γ w x v ∧ (∀ j w c y, x ≠ .gd j w c y) := by
      rcases pack_some k4 with ⟨hA, hl, rfl⟩ | ⟨hA, rfl⟩
      · refine ⟨?_, fun j w c y h => by cases h⟩
        have : ∃ cs, v = .agg cs := by
          simp only [isAggT, Option.map_eq_some_iff] at hA
          obtain ⟨u, hu, hA⟩ := hA
          simp only [Value.okWide, hu] at hv
          split at hv
          · obtain ⟨cs, rfl, _⟩ := hv; exact ⟨cs, rfl⟩
          · obtain ⟨cs, rfl, _⟩ := hv; exact ⟨cs, rfl⟩
          · rename_i h9 h10
            split at hA
            · exact absurd rfl (h9 _)
            · exact absurd rfl (h10 _ _)
            · cases hA
        obtain ⟨⟨cs⟩, rfl⟩ := this
        have := repC_rep (Γ := Γ) (w := w) (.agg l) (.agg ⟨cs⟩) (by simp only [RepC]; exact ⟨cs, rfl, k1⟩)
        exact this
      · simp only [RepCL] at k1
        obtain ⟨u, us, e1, h3, h4⟩ := k1
        subst h4
        simp only [cellsOK, List.all_cons, List.all_nil, Bool.and_true] at k2
        refine ⟨?_, fun j w c y h => by subst h; simp [leaf] at k2⟩
        have hvu : v = u := by
          have hna : ∀ cs, v ≠ .agg cs := by
            intro cs e
            subst e
            simp only [isAggT, Option.map_eq_some_iff] at hA
            obtain ⟨ud, hu, hA⟩ := hA
            simp only [Value.okWide, hu] at hv
            cases ud <;> simp_all [Cell.okWide, Cell.ok]
          cases v with
          | agg cs => exact absurd rfl (hna cs)
          | _ => simpa [Value.cells] using e1
        subst hvu
        exact repC_rep _ _ h3
    refine ⟨x :: as, by simp only [RepL]; exact ⟨v, vs, rfl, hx.1, m1⟩, ?_, by simp [m3], ?_⟩
    · intro i j w c y hy
      cases i with
      | zero => simp at hy; exact hx.2 j w c y hy
      | succ i => exact m2 i j w c y (by simpa using hy)
    · intro i u hu
      cases i with
      | zero => simp at hu; subst hu; exact ⟨n, l, x, k3, k4, k2, rfl⟩
      | succ i => simpa using m4 i u (by simpa using hu)
end
end Go.Im

namespace Go.Im
open Go Go.RowKit Go.ChangeShapes
set_option linter.unusedVariables false
set_option linter.unusedSimpArgs false
set_option linter.unnecessarySimpa false
set_option linter.unusedSectionVars false

/-- All memory that stands is frozen. -/
def cx0 (W : World) : Cx := ⟨fun g => g < W.heap.size, [], []⟩

theorem inv0 (W : World) : Inv (cx0 W) W := by
  refine ⟨rfl, fun g h => h, ?_, ?_, ?_⟩
  · intro b fz cs h; simp [cx0] at h
  · intro b ver fz e l h; simp [cx0] at h
  · intro b b' g k k' h; simp [cx0] at h

theorem own0 (W : World) (g : Nat) : ¬ (cx0 W).own g := by
  rintro ⟨b, k, h, _⟩
  simp [cx0] at h

section
variable {P : Program} {H : Hint}

/-- WHAT THE IDEAL MACHINE ANSWERS, THE MACHINE DOES. -/
theorem law_calls (hm : P.follows .mixedOrders = true) (hng : ∀ (f : FuncId) (fn : Func), P.funcs[f]? = some fn → fn.body.isSome = true → fn.name ≠ "runtime.NumGoroutine")
    {ovr : FuncId → Option CallF} (hovr : OvrOK P H ovr) {k : Nat} {f : FuncId} {as : List IV} {b : Bool} (hrun : acall P H ovr k f as [] = some (.bool b, []))
    {W : World} (hgl : ∀ g x, H.gl g = some x → RepC (fun g => g < W.heap.size) W x (.pointer (some ⟨g, 0, none⟩))) {vs : List Value} (hr : RepL (cx0 W) W as vs) (hnd : NoGd as) :
    Calls P f vs.toArray W fun e W' => e = .returned (.bool b) ∧ Below W.heap.size W W' := by
  refine ((sound hm hng hovr k f as [] _ _ hrun).2 (cx0 W) W vs (inv0 W) rfl hgl hr hnd).mono ?_
  rintro e W' ⟨v, Γ', rfl, _, hf, hv⟩
  simp only [Rep] at hv
  subst hv
  exact ⟨rfl, hf.frm.os, hf.frm.tape, hf.frm.output, hf.frm.size, fun g hg => hf.frm.heap g hg (own0 W g)⟩

theorem ovr_none : OvrOK P H (fun _ => none) := fun f F h => by cases h

theorem trodAll_stays {H : Type} {enc : TypeId × Value → H} (hl : laidOutB P = true) {W W' : World} {sp : Nat → Bool} : ∀ (ts : List TypeId) (vs : List Value) (ds : List (DataW H)) (ps : List MemPlace),
    (∀ t ∈ ts, P.readableRec t = true ∧ t < P.types.size) → DataW.TrodAll enc P W 0 (fun _ => true) true ts vs ds ps → (∀ p ∈ ps, W.sameAt W' p) → (∀ p ∈ ps, sp p.block = true) → DataW.TrodAll enc P W' 0 sp true ts vs ds ps
  | [], [], [], _, _, h, _, _ => h
  | [], [], _ :: _, _, _, h, _, _ => by simp [DataW.TrodAll] at h
  | [], _ :: _, _, _, _, h, _, _ => by simp [DataW.TrodAll] at h
  | _ :: _, [], _, _, _, h, _, _ => by simp [DataW.TrodAll] at h
  | _ :: _, _ :: _, [], _, _, h, _, _ => by simp [DataW.TrodAll] at h
  | t :: ts, v :: vs, d :: ds, ps, ht, h, hs, hb => by
    simp only [DataW.TrodAll] at h ⊢
    obtain ⟨p, q, h1, h2, rfl⟩ := h
    exact ⟨p, q, WideElems.Trod_stays hl (ht t (List.mem_cons_self ..)).1 (ht t (List.mem_cons_self ..)).2 h1 (fun x hx => hs x (List.mem_append_left _ hx)) (fun x hx => hb x (List.mem_append_left _ hx)),
      trodAll_stays hl ts vs ds q (fun u hu => ht u (List.mem_cons_of_mem _ hu)) h2 (fun x hx => hs x (List.mem_append_right _ hx)) (fun x hx => hb x (List.mem_append_right _ hx)), rfl⟩

theorem trodAll_len {H : Type} {enc : TypeId × Value → H} {W : World} {base : Nat} {sp : Nat → Bool} {held : Bool} : ∀ (ts : List TypeId) (vs : List Value) (ds : List (DataW H)) (ps : List MemPlace),
    DataW.TrodAll enc P W base sp held ts vs ds ps → ds.length = ts.length
  | [], [], [], _, _ => rfl
  | [], [], _ :: _, _, h => by simp [DataW.TrodAll] at h
  | [], _ :: _, _, _, h => by simp [DataW.TrodAll] at h
  | _ :: _, [], _, _, h => by simp [DataW.TrodAll] at h
  | _ :: _, _ :: _, [], _, h => by simp [DataW.TrodAll] at h
  | t :: ts, v :: vs, d :: ds, ps, h => by
    simp only [DataW.TrodAll] at h
    obtain ⟨p, q, h1, h2, rfl⟩ := h
    simp [trodAll_len ts vs ds q h2]

/-- What an argument of a type may be. -/
def ArgT (P : Program) (t : TypeId) (x : IV) : Prop := ∃ n l, Ty P n t l ∧ pack P t l = some x ∧ cellsOK l = true

/-- A LAW'S CALL, out of what the ideal machine answers. -/
theorem law_contract {H' : Type} {enc : TypeId × Value → H'} {f : FuncId} {fn : Func} {s : ChangeSpec} {L : List TypeId} {tb : TypeId} {apart fresh handsOn again : Bool}
    (hm : P.follows .mixedOrders = true) (hng : ∀ (f : FuncId) (fn : Func), P.funcs[f]? = some fn → fn.body.isSome = true → fn.name ≠ "runtime.NumGoroutine")
    {ovr : FuncId → Option CallF} (hovr : OvrOK P H ovr) (hL : typesOK P L = true)
    (hpl : (fn.params.toList.all fun t => L.contains t && P.readableRec t && Nat.blt t P.types.size) = true) (hlo : laidOutB P = true)
    (hvars : s.vars = []) (hs : ∀ (ds : List (DataW H')), ds.length = fn.params.size → s.fn H' ds = { results := [.lit (.bool true)], args := ds })
    (hres : fn.resultTypes = #[tb]) (hb : P.underlying tb = some .bool)
    (hrun : ∀ as : List IV, as.length = fn.params.size → (∀ (i : Nat) t, fn.params[i]? = some t → ∃ x, as[i]? = some x ∧ ArgT P t x) → ∃ k, acall P H ovr k f as [] = some (.bool true, []))
    {W : World} {base : Nat} {args : Array Value} {ds gs : List (DataW H')} {before : List MemPlace}
    (hval : ∀ (j : Nat) t v, fn.params[j]? = some t → args[j]? = some v → Value.okWide P W .any base t v)
    (hW : DataW.Whole enc P fn.params.toList s.vars apart W args.toList ds gs before)
    (hsz : (DataW.weightsEach P (fn.params.toList ++ s.plain.varTypes P) (ds ++ gs)).all (· ≤ reachBytes) = true)
    (hgl : ∀ g x, H.gl g = some x → RepC (fun g => g < W.heap.size) W x (.pointer (some ⟨g, 0, none⟩))) :
    Calls P f args W fun e W' => ∃ v, e = .returned v ∧ s.post enc P fn apart fresh handsOn again W args v W' := by
  have hW' := hW
  obtain ⟨p, q, hA, hV, rfl, hfz, hnd⟩ := hW
  have hq : gs = [] ∧ q = [] := by
    rw [hvars] at hV
    cases gs with
    | nil => exact ⟨rfl, hV⟩
    | cons => simp [DataW.TrodVars] at hV
  obtain ⟨rfl, rfl⟩ := hq
  have hlen := trodAll_len _ _ _ _ hA
  simp only [List.append_nil, ] at hsz hW'
  have hpl' : ∀ t ∈ fn.params.toList, t ∈ L ∧ P.readableRec t = true ∧ t < P.types.size := by
    intro t ht
    have := List.all_eq_true.1 hpl t ht
    simp only [Bool.and_eq_true, List.contains_iff_mem, Nat.blt_eq] at this
    exact ⟨this.1.1, this.1.2, this.2⟩
  have hw : (DataW.weightsEach P fn.params.toList ds).all (· ≤ reachBytes) = true := by
    have he : s.plain.varTypes P = [] := by simp [DataSpec.varTypes, ChangeSpec.plain, hvars]
    rw [he, List.append_nil] at hsz
    exact hsz
  obtain ⟨as, m1, m2, m3, m4⟩ := repL_of_args (Γ := cx0 W) hL (fun g hg => hg) fn.params.toList args.toList ds p (fun t ht => (hpl' t ht).1) (fun j t v h1 h2 => hval j t v (by simpa using h1) (by simpa using h2)) hA hw
  obtain ⟨k, hk⟩ := hrun as (by simpa using m3) (fun i t ht => by
    obtain ⟨n, l, x, k1, k2, k3, k4⟩ := m4 i t (by simpa using ht)
    exact ⟨x, k4, n, l, k1, k2, k3⟩)
  refine (law_calls hm hng hovr hk hgl m1 m2).mono ?_
  rintro e W' ⟨rfl, bel⟩
  have hold : ∀ x ∈ p, decide (x.block < W.heap.size) = true := fun x hx => by simpa using hW'.lt x hx
  have hargs : ∀ sp : Nat → Bool, (∀ x ∈ p, sp x.block = true) → DataW.TrodAll enc P W' 0 sp true fn.params.toList args.toList ds p :=
    fun sp hsp => trodAll_stays hlo _ _ _ _ (fun t ht => (hpl' t ht).2) hA (fun x hx => bel.same (hW'.lt x hx)) hsp
  have hr : ∀ (b : Nat) (sp : Nat → Bool) (hd : Bool), DataW.TrodAll enc P W' b sp hd fn.resultTypes.toList ((Value.bool true).resultList fn.resultTypes.size) [.lit (.bool true)] [] := by
    intro b sp hd
    rw [hres]
    exact ⟨[], [], ⟨1, by simp [DataW.trod, hb, Value.cells]⟩, rfl, rfl⟩
  have hv : ∀ (sp : Nat → Bool), DataW.TrodVars enc P W' sp s.vars [] [] := by
    intro sp
    rw [hvars]
    rfl
  have hsf : s.fn H' (ds ++ []) = { results := [.lit (.bool true)], args := ds } := by rw [List.append_nil]; exact hs ds (by simpa using hlen)
  refine ⟨_, rfl, ds, [], p, [], p, [], hW', ?_, ?_, ?_, bel.frame _, fun _ => ?_⟩
  · rw [hsf]; exact hr _ _ _
  · rw [hsf]; exact hargs _ hold
  · rw [hsf]; exact hv _
  · have hn : apart = true → p.Nodup := by simpa using hnd
    refine ⟨ok_one hres rfl (okWide_bool_mk hb _), DataW.lit (.bool true) :: ds, [], ([] ++ p) ++ [], ⟨[] ++ p, [], ?_, ?_, rfl, ?_, ?_⟩, ?_⟩
    · exact trodAll_append (hargs _ (fun _ _ => rfl)) (hr _ _ _)
    · exact hv _
    · intro b off hp
      rw [bel.frozen (hW'.lt (.cell b off) (by simpa using hp))]
      exact hfz b off (by simpa using hp)
    · intro ha
      simpa using hn ha
    · intro x hx _
      simpa using hx
end
end Go.Im

namespace Go.Im
open Go
set_option linter.unusedVariables false
set_option linter.unusedSimpArgs false
set_option linter.unnecessarySimpa false

/-! ### The ideal machine with continuations: what hangs on symbols comes to the head -/
/-- What a cell should be. -/
inductive LT
  | b | i (k : IntKind) | s | sl
def isOf : LT → IV → Bool
  | .b, .bool _ => true
  | .i k, .int k' _ => decide (k = k')
  | .s, .str _ => true
  | .sl, .fsl .. => true
  | _, _ => false
def boolOf : IV → Bool
  | .bool b => b
  | _ => false
def intOf : IV → Int
  | .int _ n => n
  | _ => 0
def strOf : IV → List UInt8
  | .str s => s
  | _ => []
def nlOf : IV → Option Bool
  | .fsl nl _ _ _ => nl
  | _ => none
def clOf : IV → Bool
  | .fsl _ cl _ _ => cl
  | _ => false
def szOf : IV → Nat
  | .fsl _ _ z _ => z
  | _ => 0
def rowL : IV → List IV
  | .fsl _ _ _ l => l
  | _ => []
def mkOf : LT → IV → IV
  | .b, v => .bool (boolOf v)
  | .i k, v => .int k (intOf v)
  | .s, v => .str (strOf v)
  | .sl, v => .fsl (nlOf v) (clOf v) (szOf v) (rowL v)
def isBytes : List IV → Bool
  | [] => true
  | .int .u8 _ :: xs => isBytes xs
  | _ => false
def toBytes : List IV → List UInt8
  | [] => []
  | x :: xs => UInt8.ofNat (intOf x).toNat :: toBytes xs
def aggL : IV → List IV
  | .agg l => l
  | x => [x]

section
variable {β : Type}
def oel {α : Type} (x : Option α) (k : α → Option β) (kf : Option β) : Option β := match x with
  | some v => k v
  | none => kf
def liftK (x : R) (k : IV → List Blk → Kd → Option β) (kf : Option β) : Option β := match x with
  | some (v, T, d) => k v T d
  | none => kf

noncomputable section
variable (P : Program) (H : Hint)

def ibinK (op : BinOp) (k k' : IntKind) (x y : Int) (kt : IV → Option β) (kf : Option β) : Option β :=
  match op with
  | .shl => cond (decide (0 ≤ y)) (kt (.int k (k.wrap (x * 2 ^ (min y.toNat k.bits))))) kf
  | .shr => cond (decide (0 ≤ y)) (kt (.int k (x.fdiv (2 ^ (min y.toNat k.bits))))) kf
  | .quo => if k = k' then cond (decide (y = 0)) kf (kt (.int k (k.wrap (x.tdiv y)))) else kf
  | .rem => if k = k' then cond (decide (y = 0)) kf (kt (.int k (x.tmod y))) else kf
  | op => oel (ibin op k k' x y) kt kf

def nilEqK (T : List Blk) (x : IV) (kt : Bool → Option β) (kf : Option β) : Option β :=
  match x with
  | .fsl (some t) _ _ _ => kt t
  | x => match slc T x with
    | some (_, _, _, l) => cond (decide (0 < l.length)) (kt false) kf
    | none => kf

def binSK (T : List Blk) (op : BinOp) (t : TypeId) (x y : IV) (kt : IV → Option β) (kf : Option β) : Option β :=
  match P.underlying t with
  | some (.slice _) => match op with
    | .eql => (match isNil y with
      | true => nilEqK T x (fun b => kt (.bool b)) kf
      | false => match isNil x with
        | true => nilEqK T y (fun b => kt (.bool b)) kf
        | false => kf)
    | .neq => (match isNil y with
      | true => nilEqK T x (fun b => kt (.bool !b)) kf
      | false => match isNil x with
        | true => nilEqK T y (fun b => kt (.bool !b)) kf
        | false => kf)
    | _ => kf
  | _ => kf

def binK (T : List Blk) (op : BinOp) (t : TypeId) (x y : IV) (kt : IV → Option β) (kf : Option β) : Option β :=
  match x, y with
  | .int k a, .int k' b => ibinK op k k' a b kt kf
  | .str a, .str b => match op with
    | .add => cond (decide (((a.length + b.length : Nat) : Int) > IntKind.i64.max)) kf (kt (.str (a ++ b)))
    | op => oel (sbin op a b) kt kf
  | .bool a, .bool b => oel (abin P T op t (.bool a) (.bool b)) kt kf
  | .agg a, .agg b => oel (abin P T op t (.agg a) (.agg b)) kt kf
  | x, y => binSK P T op t x y kt kf

def leafT (t : TypeId) : Option LT := match P.underlying t with
  | some .bool => some .b
  | some (.int k) => some (.i k)
  | some .string => some .s
  | some (.slice _) => some .sl
  | _ => none
def cellTys : Nat → TypeId → Option (List LT)
  | 0, _ => none
  | n + 1, t => match P.underlying t with
    | some (.struct fs) => fs.toList.foldr (fun f r => match cellTys n f.type, r with | some a, some b => some (a ++ b) | _, _ => none) (some [])
    | some (.array m e) => match cellTys n e with
      | some a => some ((List.replicate m a).flatten)
      | none => none
    | _ => (leafT P t).map fun u => [u]
def testAll : List LT → Nat → List IV → Bool
  | [], _, _ => true
  | u :: us, j, cs => isOf u (nthD cs j) && testAll us (j + 1) cs
def mkAll : List LT → Nat → List IV → List IV
  | [], _, _ => []
  | u :: us, j, cs => mkOf u (nthD cs j) :: mkAll us (j + 1) cs
/-- A value of a type out of cells, each laid open as its type says. -/
def etaK (t : TypeId) (cs : List IV) (kt : IV → Option β) : Option β :=
  match cellTys P 9 t with
  | some us => match Nat.beq us.length (sizeAt P t), isAggT P t with
    | true, some true => cond (testAll us 0 cs) (kt (.agg (mkAll us 0 cs))) none
    | true, some false => (match us with
      | [u] => cond (isOf u (nthD cs 0)) (kt (mkOf u (nthD cs 0))) none
      | _ => none)
    | _, _ => none
  | none => oel (pack P t (cs.take (sizeAt P t))) kt none

def loadK (T : List Blk) (t : TypeId) (a : IV) (kt : IV → List Blk → Kd → Option β) (kf : Option β) : Option β :=
  match a with
  | .ep b ver i off => match rowOf T b ver with
    | some (_, l) => cond (decide (i < l.length)) (etaK P t ((nthD l i).cells.drop off) fun v => kt v T (.rd [b])) kf
    | none => kf
  | .fp cs => etaK P t cs fun v => kt v T (.rd [])
  | a => liftK (aload P T t a) kt kf

def storeK (T : List Blk) (t : TypeId) (a x : IV) (kt : IV → List Blk → Kd → Option β) (kf : Option β) : Option β :=
  match a with
  | .ep b ver i off => if x.cells.length = sizeAt P t ∧ 0 < x.cells.length then (match cellsOK x.cells with
    | false => kf
    | true => match own? T b ver with
        | some (e, l) => match frz T x with
          | some (y, bs) => match cellsOK y.cells with
            | false => kf
            | true => if bs.contains b then kf else if off + y.cells.length ≤ e ∧ 0 < y.cells.length then cond (decide (i < l.length))
              (kt unit ((shut T bs).set b (.row ver false e (l.set i (setEl (nthD l i) off y)))) (.ef (b :: bs))) kf else kf
          | none => kf
        | none => kf) else kf
  | a => liftK (astore P T t a x) kt kf

def indexAddrK (T : List Blk) (t : TypeId) (x ix : IV) (kt : IV → List Blk → Kd → Option β) (kf : Option β) : Option β :=
  match ix with
  | .int _ i => match P.underlying t with
    | some (.slice e) => if sizeAt P e = 0 then kf else (match x with
      | .osl b ver => match rowOf T b ver with
        | some (z, l) => if z = sizeAt P e then cond (decide (0 ≤ i ∧ i < l.length)) (kt (.ep b ver i.toNat 0) T (.rd [b])) kf else kf
        | none => kf
      | .vsl b ver lo n => match rowOf T b ver with
        | some (z, _) => if z = sizeAt P e then cond (decide (0 ≤ i ∧ i < n)) (kt (.ep b ver (lo + i.toNat) 0) T (.rd [b])) kf else kf
        | none => kf
      | .vsv b lo n => match T[b]? with
        | some (.var ..) => if 1 = sizeAt P e then cond (decide (0 ≤ i ∧ i < n)) (kt (.ptr b (lo + i.toNat)) T (.rd [b])) kf else kf
        | _ => kf
      | .fsl _ _ z l => cond (decide (z = sizeAt P e ∧ 0 ≤ i ∧ i < l.length)) (kt (.fp (nthD l i.toNat).cells) T (.rd [])) kf
      | _ => kf)
    | some (.array len e) => if sizeAt P e = 0 then kf else cond (decide (0 ≤ i ∧ i < len)) (liftK (amoved T (i.toNat * sizeAt P e) x) kt kf) kf
    | _ => kf
  | _ => kf

def indexK (t : TypeId) (x ix : IV) (kt : IV → Option β) (kf : Option β) : Option β :=
  match ix with
  | .int _ i => match P.underlying t, x with
    | some .string, .str s => cond (decide (0 ≤ i ∧ i < s.length)) (kt (.int .u8 ((s.getD i.toNat 0).toNat : Int))) kf
    | some (.array len e), .agg l => cond (decide (0 ≤ i ∧ i < len)) (etaK P e (l.drop (i.toNat * sizeAt P e)) kt) kf
    | _, _ => kf
  | _ => kf

def sliceK (T : List Blk) (t : TypeId) (x : IV) (lo hi mx : Option IV) (kt : IV → List Blk → Kd → Option β) (kf : Option β) : Option β :=
  match P.underlying t with
  | some .string => match x with
    | .str s => match mx, bnd 0 lo, bnd s.length hi with
      | none, some l, some h => cond (decide (0 ≤ l ∧ l ≤ h ∧ h ≤ s.length)) (kt (.str ((s.drop l.toNat).take (h.toNat - l.toNat))) T (.rd [])) kf
      | _, _, _ => kf
    | _ => kf
  | some (.slice e) => match mx with
    | some _ => liftK (aslice P T t x lo hi mx) kt kf
    | none => if sizeAt P e = 0 then kf else (match slcLen T x with
      | some n => match bnd 0 lo, bnd n hi with
        | some l, some h => cond (decide (0 ≤ l ∧ l ≤ h ∧ h ≤ n)) (match x with
              | .fsl nl cl z xs => cond (decide (z = sizeAt P e ∨ xs.length = 0)) (kt (.fsl nl (cl && hi.isNone) z ((xs.drop l.toNat).take (h.toNat - l.toNat))) T (.rd [])) none
              | .osl b ver => match rowOf T b ver with
                | some (z, _) => if z = sizeAt P e then kt (if lo.isNone && hi.isNone then .osl b ver else .vsl b ver l.toNat (h.toNat - l.toNat)) T (.rd [b]) else none
                | none => none
              | .vsl b ver lo' _ => match rowOf T b ver with
                | some (z, _) => if z = sizeAt P e then kt (.vsl b ver (lo' + l.toNat) (h.toNat - l.toNat)) T (.rd [b]) else none
                | none => none
              | .vsv b lo' _ => if sizeAt P e = 1 then kt (.vsv b (lo' + l.toNat) (h.toNat - l.toNat)) T (.rd [b]) else none
              | _ => none) kf
        | _, _ => kf
      | none => kf)
  | _ => liftK (aslice P T t x lo hi mx) kt kf

def makeK (T : List Blk) (t : TypeId) (l c : Operand) (n : IV) (kt : IV → List Blk → Kd → Option β) (kf : Option β) : Option β :=
  match elemOf P t, n with
  | some e, .int _ n => match (match l, c with | .tmp a, .tmp b => a == b | .const (.int _ a), .const (.int _ b) => a == b | _, _ => false), infoOf P e with
    | true, some (z, size, bytes) => (match cellsOK (zcells z) && Nat.beq (zcells z).length size with
        | true => cond (decide (0 ≤ n ∧ n * bytes ≤ roomB ∧ n ≤ 9223372036854775807)) (kt (.osl T.length 0) (T ++ [.row 0 false size (List.replicate n.toNat (ofVal z))]) (.ef [T.length])) kf
        | false => kf)
    | _, _ => kf
  | _, _ => kf

def anewK (T : List Blk) (size : Nat) (u : TypeId) (x : IV) (kt : List IV → Option β) (kf : Option β) : Option β :=
  match P.underlying u, x with
  | some (.slice _), x => (match slc T x with
    | some (_, _, z, l) => cond (decide (z = size ∨ l.length = 0)) (kt l) kf
    | none => kf)
  | some .string, .str b => if size = 1 then kt (u8s b) else kf
  | _, _ => kf

def appendK (T : List Blk) (ts : List TypeId) (s x : IV) (kt : IV → List Blk → Kd → Option β) (kf : Option β) : Option β :=
  match ts with
  | [t, u] => match elemOf P t with
    | some e => match infoOf P e with
      | some (zv, size, bytes) =>
        anewK P T size u x (fun new => match Nat.beq (zcells zv).length size && Nat.blt 0 size with
          | false => kf
          | true => match s with
            | .osl b ver => match own? T b ver with
              | some (z, l) => if z = size then cond (decide ((l.length + new.length) * bytes ≤ roomB ∧ l.length + new.length ≤ maxLen))
                  (kt (.osl b (ver + 1)) (T.set b (.row (ver + 1) false z (l ++ new))) (.ef [b])) kf else kf
              | none => kf
            | .fsl nl cl z l => (match nilOrCut (.fsl nl cl z l) with
              | true => cond (decide ((z = size ∨ l.length = 0) ∧ (l.length = 0 ∨ 0 < new.length) ∧ (l.length + new.length) * bytes ≤ roomB ∧ l.length + new.length ≤ maxLen))
                  (kt (.osl T.length 0) (T ++ [Blk.row 0 false size (l ++ new)]) (.ef [T.length])) kf
              | false => kf)
            | _ => kf) kf
      | none => kf
    | none => kf
  | _ => kf

def convK (T : List Blk) (src dst : TypeId) (x : IV) (kt : IV → List Blk → Kd → Option β) (kf : Option β) : Option β :=
  match P.underlying src, P.underlying dst with
  | some (.slice e), some .string => match P.underlying e with
    | some (.int .u8) => (match slc T x with
      | some (_, _, z, l) => cond (decide (z = 1 ∨ l.length = 0) && isBytes l) (kt (.str (toBytes l)) T (.rd (refs x))) none
      | none => none)
    | _ => none
  | a, b => liftK (aconv P T src dst x) kt kf

def mergeK (c : Bool) (a b : Option IV) (kt : IV → Option β) (kf : Option β) : Option β :=
  match a, b with
  | some (.bool x), some (.bool y) => kt (.bool (cond c x y))
  | some (.int k x), some (.int k' y) => if k = k' then kt (.int k (cond c x y)) else cond c (oel a kt kf) (oel b kt kf)
  | a, b => cond c (oel a kt kf) (oel b kt kf)

abbrev CallK (β : Type) := FuncId → List IV → List Blk → (IV → List Blk → Option β) → Option β

def doCallK (call : CallK β) (T : List Blk) (f : FuncId) (as : List IV) (kt : IV → List Blk → Kd → Option β) : Option β :=
  match handed T (H.mv f) as with
  | [] => match lendL (fun _ => none) T as with
    | none => none
    | some (as', lent) => call f as' [] fun r T1 => match H.keep f with
        | false => match frz T1 r with
          | none => none
          | some (r', _) => match scalar r, lent with
            | true, _ => kt r' T (.rd lent)
            | false, [] => kt r' T (.rd [])
            | false, _ => kt r' (shut T lent) (.ef lent)
        | true => match lent with
          | [] => kt (back (fbk [] T.length) (vbk T []) r) (T ++ backBs (fbk [] T.length) (vbk T []) 0 T1) (.ef ((List.range T1.length).map (T.length + ·)))
          | _ => kt (back (fbk [] T.length) (vbk T []) r) (shut T lent ++ backBs (fbk [] T.length) (vbk T []) 0 T1) (.ef (lent ++ (List.range T1.length).map (T.length + ·)))
  | hd => match lendL (idx hd) T as, hd.all (decide <| · < T.length) with
    | some (as', lent), true => call f as' (hd.map (renB 0 (idx hd) T)) fun r T1 => match H.keep f with
        | false => match frz T1 r with
          | none => none
          | some (r', fr) => match scalar r && T1.all scalarB with
            | true => kt r' (putBack T hd (backBs (fbk hd T.length) (vbk T hd) 0 T1)) (.ef (hd ++ (List.range (T1.length - hd.length)).map (T.length + ·)))
            | false => kt r' (shut (putBack (shut T lent) hd (backBs (fbk hd T.length) (vbk T hd) 0 T1)) (fr.map (fbk hd T.length))) (.ef (hd ++ lent ++ (List.range (T1.length - hd.length)).map (T.length + ·)))
        | true => kt (back (fbk hd T.length) (vbk T hd) r) (putBack (shut T lent) hd (backBs (fbk hd T.length) (vbk T hd) 0 T1)) (.ef (hd ++ lent ++ (List.range (T1.length - hd.length)).map (T.length + ·)))
    | _, _ => none

def builtinK (T : List Blk) (b : Builtin) (ts : List TypeId) (vs : List IV) (kt : IV → List Blk → Kd → Option β) (kf : Option β) : Option β :=
  match b, vs with
  | .append, [x, y] => appendK P T ts x y kt kf
  | b, vs => liftK (abuiltin P T b ts vs) kt kf

/-- One operation; the last way out is taken where it fails. -/
def opK (call : CallK β) (ops : List Oper) (ch : List (Nat × Bool)) (o : Oper) (s : St) (kt : IV → List Blk → Kd → Option β) (kf : Option β) : Option β :=
  match o.op with
  | .pick c a b => match ev H ch s c, whoSets ops c with
    | some (.bool t), some j => mergeK t (ev H ((j, true) :: ch) s a) (ev H ((j, false) :: ch) s b) (fun v => kt v s.bx (.rd [])) kf
    | some (.bool t), none => mergeK t (ev H ch s a) (ev H ch s b) (fun v => kt v s.bx (.rd [])) kf
    | _, _ => kf
  | .binOp op t x y _ => match ev H ch s x, ev H ch s y with
    | some a, some b => binK P s.bx op t a b (fun v => kt v s.bx (.rd (refs a ++ refs b))) kf
    | _, _ => kf
  | .convert src dst x => match ev H ch s x with
    | some x => convK P s.bx src dst x kt kf
    | none => kf
  | .load t a => match ev H ch s a with
    | some a => loadK P s.bx t a kt kf
    | none => kf
  | .store t a x => match ev H ch s a, ev H ch s x with
    | some a, some x => storeK P s.bx t a x kt kf
    | _, _ => kf
  | .indexAddr t x ix => match ev H ch s x, ev H ch s ix with
    | some x, some i => indexAddrK P s.bx t x i kt kf
    | _, _ => kf
  | .index t x ix => match ev H ch s x, ev H ch s ix with
    | some x, some i => indexK P t x i (fun v => kt v s.bx (.rd [])) kf
    | _, _ => kf
  | .slice t x lo hi mx => match ev H ch s x, optEv H ch s lo, optEv H ch s hi, optEv H ch s mx with
    | some x, some lo, some hi, some mx => sliceK P s.bx t x lo hi mx kt kf
    | _, _, _, _ => kf
  | .makeSlice t l c => match ev H ch s l with
    | some n => makeK P s.bx t l c n kt kf
    | none => kf
  | .call c => match evs H ch s c.args.toList with
    | some vs => match c.callee with
      | .builtin b => builtinK P s.bx b c.argTypes.toList vs kt kf
      | .value f => (match ev H ch s f with
        | some (.fn f cap) => doCallK H call s.bx f (vs ++ cap) kt
        | _ => none)
      | _ => kf
    | none => kf
  | op => liftK (aop P H (fun _ _ _ => none) ops ch o s) kt kf

def opGK (call : CallK β) (ops : List Oper) (ch : List (Nat × Bool)) (o : Oper) (s : St) (kt : IV → List Blk → Kd → Option β) (kf : Option β) : Option β :=
  opK P H call ops ch o s (fun v T d => match v with
    | .gd .. => kf
    | v => kt v T d) kf

/-- A guard's slot, once its condition is known. -/
def fixT (want : Bool) : IV → IV
  | .bool _ => .bool want
  | .gd j w _ (.bool _) => .gd j w true (.bool want)
  | x => x
def fixF (want : Bool) : IV → IV
  | .bool _ => .bool (!want)
  | x => x
def tmpOf : Operand → Option Tmp
  | .tmp t => some t
  | _ => none
def fixK {γ : Type} (tm : List IV) (d : Option Tmp) (f : IV → IV) (k : List IV → γ) : γ := match d with
  | some d => setK (f (nthD tm d)) tm d k
  | none => k tm

def aopsK (call : CallK β) (ops : List Oper) : List Oper → Nat → St → Log → (St → Log → Option β) → Option β
  | [], _, s, g, k => k s g
  | o :: rest, i, s, g, k =>
    match o.guard with
    | none => opGK P H call ops [] o s (fun v T d => putK s.tm o.dst v fun tm => aopsK call ops rest (i + 1) { tm := tm, bx := T } ((i, d) :: g) k) none
    | some (j, want) =>
      match condOf want (((nth? ops j).bind (·.dst)).bind (nth? s.tm ·)) with
      | none => none
      | some c => match total o.op with
        | true => opGK P H call ops (chainOf ops 12 i) o s (fun v _ d => match d with
            | .rd fp => putK s.tm o.dst (.gd j want c v) fun tm => aopsK call ops rest (i + 1) { tm := tm, bx := s.bx } ((i, .rd fp) :: g) k
            | _ => cond c none (putK s.tm o.dst unit fun tm => aopsK call ops rest (i + 1) { tm := tm, bx := s.bx } g k))
            (cond c none (putK s.tm o.dst unit fun tm => aopsK call ops rest (i + 1) { tm := tm, bx := s.bx } g k))
        | false => cond c (fixK s.tm ((nth? ops j).bind (·.dst)) (fixT want) fun tm => opGK P H call ops (chainOf ops 12 i) o { tm := tm, bx := s.bx } (fun v T d => putK tm o.dst v fun tm => aopsK call ops rest (i + 1) { tm := tm, bx := T } ((i, d) :: g) k) none)
            (fixK s.tm ((nth? ops j).bind (·.dst)) (fixF want) fun tm => putK tm o.dst unit fun tm => aopsK call ops rest (i + 1) { tm := tm, bx := s.bx } g k)

def regionK (call : CallK β) (ops : Array Oper) (draw : Bool) (s : St) (k : St → Option β) : Option β :=
  match guardsOK ops.toList with
  | false => none
  | true => aopsK P H call ops.toList ops.toList 0 s [] fun s' g =>
      match (match draw with | false => true | true => drawOK ops.toList && apartB ops.toList g) with
      | false => none
      | true => match noGuard ops.toList with
        | true => k s'
        | false => force (s'.tm.map dropGd) fun tm => k { tm := tm, bx := s'.bx }

/-- A loop's contract: ways, each with its condition, how the loop ends, and the state behind it. -/
abbrev LoopF := Nat → St → List (Bool × Ex × St)
/-- The first way whose condition holds. -/
def pickK {α : Type} (k : α → Option β) : List (Bool × α) → Option β
  | [] => none
  | (t, x) :: r => cond t (k x) (pickK k r)

def aloopK (p : Nat) (kp : List Nat) (body : St → (Ex → St → Option β) → Option β) : Nat → St → (Ex → St → Option β) → Option β
  | 0, _, _ => none
  | n + 1, s, k => body s fun e s' => match e with
    | .normal => aloopK p kp body n (norm p kp s') k
    | e => k e (norm p kp s')

def execK (call : CallK β) (ls : Nat → Option LoopF) (n p : Nat) (kp : List Nat) : Nat → Code → St → (Ex → St → Option β) → Option β
  | _, .skip, s, k => k .normal s
  | _, .region _ ops draw, s, k => regionK P H call ops draw s fun s' => k .normal s'
  | pos, .seq a b, s, k => execK call ls n p kp (2 * pos) a s fun e s' => match e with
    | .normal => execK call ls n p kp (2 * pos + 1) b s' k
    | e => k e s'
  | pos, .cond c a b, s, k => match ev H [] s c with
    | some (.bool x) => cond x (fixK s.tm (tmpOf c) (fixT true) fun tm => execK call ls n p kp (2 * pos) a { tm := tm, bx := s.bx } k)
        (fixK s.tm (tmpOf c) (fixF true) fun tm => execK call ls n p kp (2 * pos + 1) b { tm := tm, bx := s.bx } k)
    | _ => none
  | pos, .block id b, s, k => execK call ls n p kp (2 * pos) b s fun e s' => match e with
    | .exit i => if i = id then k .normal s' else k (.exit i) s'
    | e => k e s'
  | pos, .loop b, s, k => match ls pos with
    | none => aloopK p kp (fun s k => execK call ls n p kp (2 * pos) b s k) n (norm p kp s) k
    | some F => pickK (fun x => k x.1 x.2) (F p (norm p kp s))
  | _, .exit id, s, k => k (.exit id) s
  | _, .label _, s, k => k .normal s
  | _, .goto l, s, k => k (.goto l) s
  | _, .ret, s, k => k .ret s
  | _, _, _, _ => none

/-- A function's contract: ways, each with its condition, the result, and the blocks. -/
abbrev SpecF := List IV → List Blk → List (Bool × IV × List Blk)

def callK (spec : FuncId → Option SpecF) (ls : FuncId → Nat → Option LoopF) : Nat → CallK β
  | 0 => fun _ _ _ _ => none
  | n + 1 => fun f as T k => match spec f with
    | some F => pickK (fun x => k x.1 x.2) (F as T)
    | none => match P.funcs[f]? with
      | some fn => match fn.body with
        | some c => execK P H (callK spec ls n) (ls f) n T.length (H.kp f) 1 c { tm := as ++ List.replicate (fn.ntmps - as.length) .undef, bx := T } fun e s => match e with
          | .normal => (match resOf P H s fn.results.toList with
            | some rs => let r := finish T.length (one rs) s.bx; k r.1 r.2
            | none => none)
          | .ret => (match resOf P H s fn.results.toList with
            | some rs => let r := finish T.length (one rs) s.bx; k r.1 r.2
            | none => none)
          | _ => none
        | none => none
      | none => none
end
end
end Go.Im

namespace Go.Im
open Go
set_option linter.unusedVariables false
set_option linter.unusedSimpArgs false
set_option linter.unnecessarySimpa false
set_option linter.unusedSectionVars false

/-- From some number on. -/
def Ev (p : Nat → Prop) : Prop := ∃ m, ∀ j, m ≤ j → p j
theorem Ev.all {p : Nat → Prop} (h : ∀ j, p j) : Ev p := ⟨0, fun j _ => h j⟩
theorem Ev.and {p q : Nat → Prop} (hp : Ev p) (hq : Ev q) : Ev fun j => p j ∧ q j := by
  obtain ⟨a, ha⟩ := hp
  obtain ⟨b, hb⟩ := hq
  exact ⟨max a b, fun j hj => ⟨ha j (by omega), hb j (by omega)⟩⟩
theorem Ev.mono {p q : Nat → Prop} (hp : Ev p) (h : ∀ j, p j → q j) : Ev q := by
  obtain ⟨a, ha⟩ := hp
  exact ⟨a, fun j hj => h j (ha j hj)⟩

section
variable {β : Type}
def Hit1 (x : Option IV) (kt : IV → Option β) (kf : Option β) (r : β) : Prop := (∃ v, x = some v ∧ kt v = some r) ∨ (x = none ∧ kf = some r)
def Hit (x : R) (kt : IV → List Blk → Kd → Option β) (kf : Option β) (r : β) : Prop := (∃ v T d, x = some (v, T, d) ∧ kt v T d = some r) ∨ (x = none ∧ kf = some r)
def HitE (x : Nat → R) (kt : IV → List Blk → Kd → Option β) (kf : Option β) (r : β) : Prop := (∃ v T d, Ev (fun m => x m = some (v, T, d)) ∧ kt v T d = some r) ∨ (Ev (fun m => x m = none) ∧ kf = some r)

variable {P : Program} {H : Hint} {r : β} {kf : Option β}

theorem oel_hit {x : Option IV} {kt : IV → Option β} (h : oel x kt kf = some r) : Hit1 x kt kf r := by
  cases x with
  | none => exact .inr ⟨rfl, h⟩
  | some v => exact .inl ⟨v, rfl, h⟩
theorem liftK_hit {x : R} {kt : IV → List Blk → Kd → Option β} (h : liftK x kt kf = some r) : Hit x kt kf r := by
  cases x with
  | none => exact .inr ⟨rfl, h⟩
  | some v => obtain ⟨v, T, d⟩ := v; exact .inl ⟨v, T, d, rfl, h⟩
theorem Hit.e {x : R} {kt : IV → List Blk → Kd → Option β} (h : Hit x kt kf r) : HitE (fun _ => x) kt kf r := by
  rcases h with ⟨v, T, d, e, h⟩ | ⟨e, h⟩
  · exact .inl ⟨v, T, d, Ev.all fun _ => e, h⟩
  · exact .inr ⟨Ev.all fun _ => e, h⟩
theorem hit_rdv {T : List Blk} {fp : List Nat} {x : Option IV} {kt : IV → List Blk → Kd → Option β} (h : Hit1 x (fun v => kt v T (.rd fp)) kf r) : Hit (rdv T fp x) kt kf r := by
  rcases h with ⟨v, rfl, h⟩ | ⟨rfl, h⟩
  · exact .inl ⟨v, T, .rd fp, rfl, h⟩
  · exact .inr ⟨rfl, h⟩

theorem cond_some {c : Bool} {a b : Option β} (h : cond c a b = some r) : (c = true ∧ a = some r) ∨ (c = false ∧ b = some r) := by
  cases c
  · exact .inr ⟨rfl, h⟩
  · exact .inl ⟨rfl, h⟩

theorem ibinK_hit {op : BinOp} {k k' : IntKind} {x y : Int} {kt : IV → Option β} (h : ibinK op k k' x y kt kf = some r) : Hit1 (ibin op k k' x y) kt kf r := by
  unfold ibinK at h
  split at h
  · simp only [ibin]
    rcases cond_some h with ⟨h1, h2⟩ | ⟨h1, h2⟩
    · simp only [decide_eq_true_eq] at h1
      rw [if_neg (by omega)]
      exact .inl ⟨_, rfl, h2⟩
    · simp only [decide_eq_false_iff_not] at h1
      rw [if_pos (by omega)]
      exact .inr ⟨rfl, h2⟩
  · simp only [ibin]
    rcases cond_some h with ⟨h1, h2⟩ | ⟨h1, h2⟩
    · simp only [decide_eq_true_eq] at h1
      rw [if_neg (by omega)]
      exact .inl ⟨_, rfl, h2⟩
    · simp only [decide_eq_false_iff_not] at h1
      rw [if_pos (by omega)]
      exact .inr ⟨rfl, h2⟩
  · simp only [ibin]
    split at h
    · rename_i hk
      rw [if_pos hk]
      rcases cond_some h with ⟨h1, h2⟩ | ⟨h1, h2⟩
      · simp only [decide_eq_true_eq] at h1
        rw [if_pos h1]
        exact .inr ⟨rfl, h2⟩
      · simp only [decide_eq_false_iff_not] at h1
        rw [if_neg h1]
        exact .inl ⟨_, rfl, h2⟩
    · rename_i hk
      rw [if_neg hk]
      exact .inr ⟨rfl, h⟩
  · simp only [ibin]
    split at h
    · rename_i hk
      rw [if_pos hk]
      rcases cond_some h with ⟨h1, h2⟩ | ⟨h1, h2⟩
      · simp only [decide_eq_true_eq] at h1
        rw [if_pos h1]
        exact .inr ⟨rfl, h2⟩
      · simp only [decide_eq_false_iff_not] at h1
        rw [if_neg h1]
        exact .inl ⟨_, rfl, h2⟩
    · rename_i hk
      rw [if_neg hk]
      exact .inr ⟨rfl, h⟩
  · exact oel_hit h

theorem nilEqK_hit {T : List Blk} {x : IV} {kt : Bool → Option β} (h : nilEqK T x kt kf = some r) : (∃ v, nilEq T x = some v ∧ kt v = some r) ∨ (nilEq T x = none ∧ kf = some r) := by
  unfold nilEqK at h
  split at h
  · exact .inl ⟨_, rfl, h⟩
  · rename_i hx
    have e : nilEq T x = match slc T x with
      | some (_, _, _, l) => if l.length > 0 then some false else none
      | none => none := by
      unfold nilEq
      split
      · rename_i t a b c
        exact absurd rfl (hx t a b c)
      · rfl
    rw [e]
    split at h
    · rename_i hs
      try rw [hs]
      try simp only
      rcases cond_some h with ⟨h1, h2⟩ | ⟨h1, h2⟩
      · simp only [decide_eq_true_eq] at h1
        rw [if_pos h1]
        exact .inl ⟨_, rfl, h2⟩
      · simp only [decide_eq_false_iff_not] at h1
        rw [if_neg h1]
        exact .inr ⟨rfl, h2⟩
    · rename_i hs
      try rw [hs]
      exact .inr ⟨rfl, h⟩

theorem binSK_hit {T : List Blk} {op : BinOp} {t : TypeId} {x y : IV} {kt : IV → Option β} (h : binSK P T op t x y kt kf = some r) : Hit1 (abinS P T op t x y) kt kf r := by
  unfold binSK at h
  unfold abinS
  split at h
  · rename_i e hu
    rw [hu]
    simp only
    split at h
    · split at h
      · rename_i hy
        simp only [hy, if_true]
        rcases nilEqK_hit h with ⟨v, h1, h2⟩ | ⟨h1, h2⟩
        · rw [h1]; exact .inl ⟨_, rfl, h2⟩
        · rw [h1]; exact .inr ⟨rfl, h2⟩
      · rename_i hy
        split at h
        · rename_i hx
          simp only [hy, hx, if_true, Bool.false_eq_true, if_false]
          rcases nilEqK_hit h with ⟨v, h1, h2⟩ | ⟨h1, h2⟩
          · rw [h1]; exact .inl ⟨_, rfl, h2⟩
          · rw [h1]; exact .inr ⟨rfl, h2⟩
        · rename_i hx
          simp only [hy, hx, Bool.false_eq_true, if_false]
          exact .inr ⟨rfl, h⟩
    · split at h
      · rename_i hy
        simp only [hy, if_true]
        rcases nilEqK_hit h with ⟨v, h1, h2⟩ | ⟨h1, h2⟩
        · rw [h1]; exact .inl ⟨_, rfl, h2⟩
        · rw [h1]; exact .inr ⟨rfl, h2⟩
      · rename_i hy
        split at h
        · rename_i hx
          simp only [hy, hx, if_true, Bool.false_eq_true, if_false]
          rcases nilEqK_hit h with ⟨v, h1, h2⟩ | ⟨h1, h2⟩
          · rw [h1]; exact .inl ⟨_, rfl, h2⟩
          · rw [h1]; exact .inr ⟨rfl, h2⟩
        · rename_i hx
          simp only [hy, hx, Bool.false_eq_true, if_false]
          exact .inr ⟨rfl, h⟩
    · rename_i h1 h2
      refine .inr ⟨?_, h⟩
      split
      · split
        · exact absurd rfl h1
        · exact absurd rfl h2
        · rfl
      · rfl
  · rename_i hu
    refine .inr ⟨?_, h⟩
    split
    · rename_i e he
      exact absurd he (hu e)
    · rfl

theorem binK_hit {T : List Blk} {op : BinOp} {t : TypeId} {x y : IV} {kt : IV → Option β} (h : binK P T op t x y kt kf = some r) : Hit1 (abin P T op t x y) kt kf r := by
  unfold binK at h
  split at h
  · exact ibinK_hit h
  · rename_i a b
    simp only [abin]
    split at h
    · simp only [sbin]
      rcases cond_some h with ⟨h1, h2⟩ | ⟨h1, h2⟩
      · simp only [decide_eq_true_eq] at h1
        rw [if_pos h1]
        exact .inr ⟨rfl, h2⟩
      · simp only [decide_eq_false_iff_not] at h1
        rw [if_neg h1]
        exact .inl ⟨_, rfl, h2⟩
    · exact oel_hit h
  · exact oel_hit h
  · exact oel_hit h
  · rename_i h1 h2 h3 h4
    have e : abin P T op t x y = abinS P T op t x y := by
      unfold abin
      split
      · exact absurd rfl (h1 _ _ _ _ rfl)
      · exact absurd rfl (h2 _ _ rfl)
      · exact absurd rfl (h3 _ _ rfl)
      · exact absurd rfl (h4 _ _ rfl)
      · rfl
    rw [e]
    exact binSK_hit h

/-! ### Cells laid open -/
theorem mkOf_eq {u : LT} {v : IV} (h : isOf u v = true) : mkOf u v = v ∧ leaf v = true := by
  cases u <;> cases v <;> simp [isOf] at h
  · exact ⟨rfl, rfl⟩
  · subst h; exact ⟨rfl, rfl⟩
  · exact ⟨rfl, rfl⟩
  · exact ⟨rfl, rfl⟩
theorem nthD_some {cs : List IV} {j : Nat} (h : leaf (nthD cs j) = true) : cs[j]? = some (nthD cs j) := by
  unfold nthD at *
  rw [List.getD_eq_getElem?_getD] at *
  cases hc : cs[j]? with
  | none => rw [hc] at h; simp [leaf] at h
  | some x => rfl
theorem mkAll_eq : ∀ (us : List LT) (j : Nat) (cs : List IV), testAll us j cs = true → mkAll us j cs = (cs.drop j).take us.length
  | [], j, cs, _ => by simp [mkAll]
  | u :: us, j, cs, h => by
    simp only [testAll, Bool.and_eq_true] at h
    obtain ⟨h1, h2⟩ := mkOf_eq h.1
    have h3 := nthD_some h2
    have hlt := (List.getElem?_eq_some_iff.1 h3).1
    simp only [mkAll, mkAll_eq us (j + 1) cs h.2, h1, List.length_cons]
    rw [List.drop_eq_getElem_cons hlt, List.take_succ_cons]
    congr 1
    have := List.getElem?_eq_getElem hlt
    rw [h3] at this
    exact Option.some.inj this
theorem testAll_len : ∀ (us : List LT) (j : Nat) (cs : List IV), testAll us j cs = true → us = [] ∨ j + us.length ≤ cs.length
  | [], j, cs, _ => .inl rfl
  | u :: us, j, cs, h => by
    simp only [testAll, Bool.and_eq_true] at h
    have hlt := (List.getElem?_eq_some_iff.1 (nthD_some (mkOf_eq h.1).2)).1
    rcases testAll_len us (j + 1) cs h.2 with rfl | h2
    · exact .inr hlt
    · exact .inr (by simp only [List.length_cons]; omega)

theorem etaK_ok {t : TypeId} {cs : List IV} {kt : IV → Option β} (h : etaK P t cs kt = some r) : ∃ v, pack P t (cs.take (sizeAt P t)) = some v ∧ kt v = some r := by
  unfold etaK at h
  split at h
  · rename_i us hus
    split at h
    · rename_i hl ha
      have hl := Nat.eq_of_beq_eq_true hl
      rcases cond_some h with ⟨h1, h2⟩ | ⟨_, h2⟩
      · refine ⟨_, ?_, h2⟩
        have hm := mkAll_eq us 0 cs h1
        rw [List.drop_zero, hl] at hm
        rw [← hm]
        simp only [pack, ha]
        rw [if_pos]
        rw [hm]
        rcases testAll_len us 0 cs h1 with rfl | h3
        · simp at hl; simp [← hl]
        · simp; omega
      · cases h2
    · rename_i hl ha
      have hl := Nat.eq_of_beq_eq_true hl
      split at h
      · rename_i u hl0
        rcases cond_some h with ⟨h1, h2⟩ | ⟨_, h2⟩
        · refine ⟨_, ?_, h2⟩
          have hm := mkAll_eq [u] 0 cs (by simp only [testAll, h1, Bool.and_true])
          rw [List.drop_zero, hl] at hm
          rw [← hm]
          simp [pack, ha, mkAll]
        · cases h2
      · cases h
    · cases h
  · rcases oel_hit h with ⟨v, h1, h2⟩ | ⟨_, h2⟩
    · exact ⟨v, h1, h2⟩
    · cases h2

theorem loadK_hit {T : List Blk} {t : TypeId} {a : IV} {kt : IV → List Blk → Kd → Option β} (h : loadK P T t a kt kf = some r) : Hit (aload P T t a) kt kf r := by
  unfold loadK at h
  split at h
  · simp only [aload]
    split at h
    · rename_i hr
      rw [hr]
      simp only
      rcases cond_some h with ⟨h1, h2⟩ | ⟨h1, h2⟩
      · simp only [decide_eq_true_eq] at h1
        rw [if_pos h1]
        obtain ⟨v, k1, k2⟩ := etaK_ok h2
        rw [k1]
        exact .inl ⟨_, _, _, rfl, k2⟩
      · simp only [decide_eq_false_iff_not] at h1
        rw [if_neg h1]
        exact .inr ⟨rfl, h2⟩
    · rename_i hr
      rw [hr]
      exact .inr ⟨rfl, h⟩
  · simp only [aload]
    obtain ⟨v, k1, k2⟩ := etaK_ok h
    rw [k1]
    exact .inl ⟨_, _, _, rfl, k2⟩
  · exact liftK_hit h

theorem storeK_hit {T : List Blk} {t : TypeId} {a x : IV} {kt : IV → List Blk → Kd → Option β} (h : storeK P T t a x kt kf = some r) : Hit (astore P T t a x) kt kf r := by
  unfold storeK at h
  split at h
  · rename_i b ver i off
    simp only [astore]
    split at h
    · rename_i h0
      rw [if_pos h0]
      split at h
      · rename_i h1
        rw [h1]
        exact .inr ⟨rfl, h⟩
      · rename_i h1
        rw [h1]
        simp only
        split at h
        · rename_i e l ho
          rw [ho]
          simp only
          split at h
          · rename_i y bs hf
            rw [hf]
            simp only
            split at h
            · rename_i h2
              rw [h2]
              exact .inr ⟨rfl, h⟩
            · rename_i h2
              rw [h2]
              simp only
              split at h
              · rename_i h3
                rw [if_pos h3]
                exact .inr ⟨rfl, h⟩
              · rename_i h3
                rw [if_neg h3]
                split at h
                · rename_i h4
                  rcases cond_some h with ⟨h5, h6⟩ | ⟨h5, h6⟩
                  · simp only [decide_eq_true_eq] at h5
                    rw [if_pos ⟨h5, h4⟩]
                    exact .inl ⟨_, _, _, rfl, h6⟩
                  · simp only [decide_eq_false_iff_not] at h5
                    rw [if_neg (fun h => h5 h.1)]
                    exact .inr ⟨rfl, h6⟩
                · rename_i h4
                  rw [if_neg (fun h => h4 h.2)]
                  exact .inr ⟨rfl, h⟩
          · rename_i hf
            rw [hf]
            exact .inr ⟨rfl, h⟩
        · rename_i ho
          rw [ho]
          exact .inr ⟨rfl, h⟩
    · rename_i h0
      rw [if_neg h0]
      exact .inr ⟨rfl, h⟩
  · exact liftK_hit h

theorem indexAddrK_hit {T : List Blk} {t : TypeId} {x ix : IV} {kt : IV → List Blk → Kd → Option β} (h : indexAddrK P T t x ix kt kf = some r) : Hit (aindexAddr P T t x ix) kt kf r := by
  unfold indexAddrK at h
  unfold aindexAddr
  split at h
  · rename_i k i
    simp only
    split at h
    · rename_i e hu
      rw [hu]
      simp only
      split at h
      · rename_i h0
        rw [if_pos h0]
        exact .inr ⟨rfl, h⟩
      · rename_i h0
        rw [if_neg h0]
        split at h
        · simp only
          split at h
          · rename_i hr
            rw [hr]
            simp only
            split at h
            · rename_i hz
              rw [if_pos hz]
              rcases cond_some h with ⟨h5, h6⟩ | ⟨h5, h6⟩
              · simp only [decide_eq_true_eq] at h5
                rw [if_pos h5]
                exact .inl ⟨_, _, _, rfl, h6⟩
              · simp only [decide_eq_false_iff_not] at h5
                rw [if_neg h5]
                exact .inr ⟨rfl, h6⟩
            · rename_i hz
              rw [if_neg hz]
              exact .inr ⟨rfl, h⟩
          · rename_i hr
            rw [hr]
            exact .inr ⟨rfl, h⟩
        · simp only
          split at h
          · rename_i hr
            rw [hr]
            simp only
            split at h
            · rename_i hz
              rw [if_pos hz]
              rcases cond_some h with ⟨h5, h6⟩ | ⟨h5, h6⟩
              · simp only [decide_eq_true_eq] at h5
                rw [if_pos h5]
                exact .inl ⟨_, _, _, rfl, h6⟩
              · simp only [decide_eq_false_iff_not] at h5
                rw [if_neg h5]
                exact .inr ⟨rfl, h6⟩
            · rename_i hz
              rw [if_neg hz]
              exact .inr ⟨rfl, h⟩
          · rename_i hr
            rw [hr]
            exact .inr ⟨rfl, h⟩
        · simp only
          split at h
          · rename_i hr
            rw [hr]
            simp only
            split at h
            · rename_i hz
              rw [if_pos hz]
              rcases cond_some h with ⟨h5, h6⟩ | ⟨h5, h6⟩
              · simp only [decide_eq_true_eq] at h5
                rw [if_pos h5]
                exact .inl ⟨_, _, _, rfl, h6⟩
              · simp only [decide_eq_false_iff_not] at h5
                rw [if_neg h5]
                exact .inr ⟨rfl, h6⟩
            · rename_i hz
              rw [if_neg hz]
              exact .inr ⟨rfl, h⟩
          · rename_i hr
            refine .inr ⟨?_, h⟩
            split
            · rename_i fz cs h9
              exact absurd h9 (hr fz cs)
            · rfl
        · simp only
          rcases cond_some h with ⟨h5, h6⟩ | ⟨h5, h6⟩
          · simp only [decide_eq_true_eq] at h5
            rw [if_pos h5.1, if_pos h5.2]
            exact .inl ⟨_, _, _, rfl, h6⟩
          · simp only [decide_eq_false_iff_not] at h5
            refine .inr ⟨?_, h6⟩
            split
            · rename_i hz
              rw [if_neg (fun h => h5 ⟨hz, h⟩)]
            · rfl
        · rename_i g1 g2 g3 g4
          refine .inr ⟨?_, h⟩
          split
          · exact absurd rfl (g1 _ _)
          · exact absurd rfl (g2 _ _ _ _)
          · exact absurd rfl (g3 _ _ _)
          · exact absurd rfl (g4 _ _ _ _)
          · rfl
    · rename_i len e hu
      rw [hu]
      simp only
      split at h
      · rename_i h0
        rw [if_pos h0]
        exact .inr ⟨rfl, h⟩
      · rename_i h0
        rw [if_neg h0]
        rcases cond_some h with ⟨h5, h6⟩ | ⟨h5, h6⟩
        · simp only [decide_eq_true_eq] at h5
          rw [if_pos h5]
          exact liftK_hit h6
        · simp only [decide_eq_false_iff_not] at h5
          rw [if_neg h5]
          exact .inr ⟨rfl, h6⟩
    · rename_i g1 g2
      refine .inr ⟨?_, h⟩
      split
      · rename_i e he; exact absurd he (g1 e)
      · rename_i n e he; exact absurd he (g2 n e)
      · rfl
  · rename_i g
    refine .inr ⟨?_, h⟩
    split
    · exact absurd rfl (g _ _)
    · rfl

theorem indexK_hit {t : TypeId} {x ix : IV} {kt : IV → Option β} (h : indexK P t x ix kt kf = some r) : Hit1 (aindex P t x ix) kt kf r := by
  unfold indexK at h
  unfold aindex
  split at h
  · rename_i k i
    simp only
    split at h
    · rename_i s hu
      rw [hu]
      simp only
      rcases cond_some h with ⟨h5, h6⟩ | ⟨h5, h6⟩
      · simp only [decide_eq_true_eq] at h5
        rw [if_pos h5]
        exact .inl ⟨_, rfl, h6⟩
      · simp only [decide_eq_false_iff_not] at h5
        rw [if_neg h5]
        exact .inr ⟨rfl, h6⟩
    · rename_i len e l hu
      rw [hu]
      simp only
      rcases cond_some h with ⟨h5, h6⟩ | ⟨h5, h6⟩
      · simp only [decide_eq_true_eq] at h5
        rw [if_pos h5]
        obtain ⟨v, k1, k2⟩ := etaK_ok h6
        rw [k1]
        exact .inl ⟨_, rfl, k2⟩
      · simp only [decide_eq_false_iff_not] at h5
        rw [if_neg h5]
        exact .inr ⟨rfl, h6⟩
    · rename_i g1 g2
      refine .inr ⟨?_, h⟩
      split
      · rename_i s hu; exact absurd rfl (g1 s hu)
      · rename_i n e l hu; exact absurd rfl (g2 n e l hu)
      · rfl
  · rename_i g
    refine .inr ⟨?_, h⟩
    split
    · exact absurd rfl (g _ _)
    · rfl

theorem sliceK_hit {T : List Blk} {t : TypeId} {x : IV} {lo hi mx : Option IV} {kt : IV → List Blk → Kd → Option β} (h : sliceK P T t x lo hi mx kt kf = some r) : Hit (aslice P T t x lo hi mx) kt kf r := by
  unfold sliceK at h
  split at h
  · rename_i hu
    unfold aslice
    rw [hu]
    simp only
    split at h
    · simp only
      split at h
      · rename_i l hh h1 h2
        rw [h1, h2]
        simp only
        rcases cond_some h with ⟨h5, h6⟩ | ⟨h5, h6⟩
        · simp only [decide_eq_true_eq] at h5
          rw [if_pos h5]
          exact .inl ⟨_, _, _, rfl, h6⟩
        · simp only [decide_eq_false_iff_not] at h5
          rw [if_neg h5]
          exact .inr ⟨rfl, h6⟩
      · rename_i g
        refine .inr ⟨?_, h⟩
        split
        · rename_i l hh g1 g2
          exact absurd g2 (g l hh rfl g1)
        · rfl
    · rename_i g
      refine .inr ⟨?_, h⟩
      split
      · exact absurd rfl (g _)
      · rfl
  · rename_i e hu
    split at h
    · exact liftK_hit h
    · unfold aslice
      rw [hu]
      simp only
      split at h
      · rename_i h0
        rw [if_pos h0]
        exact .inr ⟨rfl, h⟩
      · rename_i h0
        rw [if_neg h0]
        split at h
        · rename_i n hn
          rw [hn]
          simp only
          split at h
          · rename_i l hh h1 h2
            rw [h1, h2]
            simp only
            rcases cond_some h with ⟨h5, h6⟩ | ⟨h5, h6⟩
            · simp only [decide_eq_true_eq] at h5
              rw [if_pos h5]
              simp only [acut]
              left
              split at h6
              · rcases cond_some h6 with ⟨h7, h8⟩ | ⟨_, h8⟩
                · simp only [decide_eq_true_eq] at h7
                  simp only
                  rw [if_pos h7]
                  exact ⟨_, _, _, by simp only [Bool.false_or]; rfl, h8⟩
                · cases h8
              · simp only
                split at h6
                · rename_i hr
                  rw [hr]
                  simp only
                  split at h6
                  · rename_i hz
                    rw [if_pos hz]
                    exact ⟨_, _, _, rfl, h6⟩
                  · cases h6
                · cases h6
              · simp only
                split at h6
                · rename_i hr
                  rw [hr]
                  simp only
                  split at h6
                  · rename_i hz
                    rw [if_pos hz]
                    exact ⟨_, _, _, rfl, h6⟩
                  · cases h6
                · cases h6
              · simp only
                split at h6
                · rename_i hz
                  rw [if_pos hz]
                  exact ⟨_, _, _, rfl, h6⟩
                · cases h6
              · cases h6
            · simp only [decide_eq_false_iff_not] at h5
              rw [if_neg h5]
              exact .inr ⟨rfl, h6⟩
          · rename_i g
            refine .inr ⟨?_, h⟩
            split
            · rename_i l hh g1 g2
              exact absurd g2 (g l hh g1)
            · rfl
        · rename_i hn
          rw [hn]
          exact .inr ⟨rfl, h⟩
  · exact liftK_hit h

theorem makeK_hit {T : List Blk} {t : TypeId} {l c : Operand} {n : IV} {kt : IV → List Blk → Kd → Option β} (h : makeK P T t l c n kt kf = some r) : Hit (amake P T t l c n) kt kf r := by
  unfold makeK at h
  unfold amake
  split at h
  · rename_i e k n he
    rw [he]
    simp only
    split at h
    · rename_i z size bytes h1 h2
      split
      · rename_i z' s' b' g1 g2
        obtain ⟨rfl, rfl, rfl⟩ : z' = z ∧ s' = size ∧ b' = bytes := by
          have := g2.symm.trans h2
          simp only [Option.some.injEq, Prod.mk.injEq] at this
          exact this
        split at h
        · rename_i hc
          rcases cond_some h with ⟨h5, h6⟩ | ⟨h5, h6⟩
          · simp only [decide_eq_true_eq] at h5
            rw [if_pos h5, hc]
            exact .inl ⟨_, _, _, rfl, h6⟩
          · simp only [decide_eq_false_iff_not] at h5
            rw [if_neg h5]
            exact .inr ⟨rfl, h6⟩
        · rename_i hc
          rw [hc]
          exact .inr ⟨by simp, h⟩
      · rename_i g
        exact absurd h2 (g z size bytes h1)
    · rename_i g
      refine .inr ⟨?_, h⟩
      split
      · rename_i z s b g1 g2
        exact absurd g2 (g z s b g1)
      · rfl
  · rename_i g
    refine .inr ⟨?_, h⟩
    split
    · rename_i e k n he
      exact absurd rfl (g e k n he)
    · rfl

theorem anewK_hit {T : List Blk} {size : Nat} {u : TypeId} {x : IV} {kt : List IV → Option β} (h : anewK P T size u x kt kf = some r) : (∃ l, anew P T size u x = some l ∧ kt l = some r) ∨ (anew P T size u x = none ∧ kf = some r) := by
  unfold anewK at h
  unfold anew
  split at h
  · rename_i e hu
    rw [hu]
    simp only
    split at h
    · rename_i hs
      simp only [hs]
      rcases cond_some h with ⟨h5, h6⟩ | ⟨h5, h6⟩
      · simp only [decide_eq_true_eq] at h5
        rw [if_pos h5]
        exact .inl ⟨_, rfl, h6⟩
      · simp only [decide_eq_false_iff_not] at h5
        rw [if_neg h5]
        exact .inr ⟨rfl, h6⟩
    · rename_i hs
      simp only [hs]
      exact .inr ⟨trivial, h⟩
  · rename_i b hu
    rw [hu]
    simp only
    split at h
    · rename_i hz
      rw [if_pos hz]
      exact .inl ⟨_, rfl, h⟩
    · rename_i hz
      rw [if_neg hz]
      exact .inr ⟨rfl, h⟩
  · rename_i g1 g2
    refine .inr ⟨?_, h⟩
    split
    · rename_i e hu; exact absurd hu (g1 e)
    · rename_i b hu; exact absurd rfl (g2 b hu)
    · rfl

theorem appendK_hit {T : List Blk} {ts : List TypeId} {s x : IV} {kt : IV → List Blk → Kd → Option β} (h : appendK P T ts s x kt kf = some r) : Hit (aappend P T ts s x) kt kf r := by
  unfold appendK at h
  unfold aappend
  split at h
  · rename_i t u
    simp only
    split at h
    · rename_i e he
      rw [he]
      simp only
      split at h
      · rename_i zv size bytes hi
        rw [hi]
        simp only
        rcases anewK_hit h with ⟨new, hn, h⟩ | ⟨hn, h⟩
        · rw [hn]
          simp only
          split at h
          · rename_i hb
            refine .inr ⟨?_, h⟩
            split
            · rfl
            · rename_i hb2
              rw [hb2] at hb
              simp only [Bool.true_and] at hb
              have hs : ¬ 0 < size := by
                intro h0
                rw [(show Nat.blt 0 size = true by rw [Nat.blt_eq]; exact h0)] at hb
                cases hb
              split
              · split
                · rw [if_neg (fun h => hs h.2.1)]
                · rfl
              · rw [if_neg (fun h => hs h.2.2.1)]
              · rfl
          · rename_i hb
            simp only [Bool.and_eq_true] at hb
            obtain ⟨hb1, hb2⟩ := hb
            rw [hb1]
            have hs : 0 < size := by rw [← Nat.blt_eq]; exact hb2
            simp only
            split at h
            · simp only
              split at h
              · rename_i z l ho
                rw [ho]
                simp only
                split at h
                · rename_i hz
                  rcases cond_some h with ⟨h5, h6⟩ | ⟨h5, h6⟩
                  · simp only [decide_eq_true_eq] at h5
                    rw [if_pos ⟨hz, hs, h5⟩]
                    exact .inl ⟨_, _, _, rfl, h6⟩
                  · simp only [decide_eq_false_iff_not] at h5
                    rw [if_neg (fun h => h5 h.2.2)]
                    exact .inr ⟨rfl, h6⟩
                · rename_i hz
                  rw [if_neg (fun h => hz h.1)]
                  exact .inr ⟨rfl, h⟩
              · rename_i ho
                rw [ho]
                exact .inr ⟨rfl, h⟩
            · rename_i nl cl z l
              simp only
              split at h
              · rename_i hc
                rcases cond_some h with ⟨h5, h6⟩ | ⟨h5, h6⟩
                · simp only [decide_eq_true_eq] at h5
                  rw [if_pos ⟨hc, h5.1, hs, h5.2⟩]
                  exact .inl ⟨_, _, _, rfl, h6⟩
                · simp only [decide_eq_false_iff_not] at h5
                  rw [if_neg (fun h => h5 ⟨h.2.1, h.2.2.2⟩)]
                  exact .inr ⟨rfl, h6⟩
              · rename_i hc
                rw [if_neg (fun h => by rw [hc] at h; cases h.1)]
                exact .inr ⟨rfl, h⟩
            · rename_i g1 g2
              refine .inr ⟨?_, h⟩
              split
              · exact absurd rfl (g1 _ _)
              · exact absurd rfl (g2 _ _ _ _)
              · rfl
        · refine .inr ⟨?_, h⟩
          rw [hn]
      · rename_i hi
        rw [hi]
        exact .inr ⟨rfl, h⟩
    · rename_i he
      rw [he]
      exact .inr ⟨rfl, h⟩
  · rename_i g
    refine .inr ⟨?_, h⟩
    split
    · exact absurd rfl (g _ _)
    · rfl

theorem isBytes_eq : ∀ (l : List IV), isBytes l = true → bytesOfIV l = some (toBytes l)
  | [], _ => rfl
  | .int k n :: xs, h => by
    cases k <;> simp only [isBytes] at h <;> first | cases h | skip
    simp only [bytesOfIV, isBytes_eq xs h, toBytes, intOf]
    rfl
  | .undef :: _, h | .bool _ :: _, h | .str _ :: _, h | .nilp :: _, h | .nilf :: _, h | .nili :: _, h | .agg _ :: _, h | .tup _ :: _, h | .fsl .. :: _, h | .fp _ :: _, h | .fn .. :: _, h | .gd .. :: _, h | .osl .. :: _, h
  | .vsl .. :: _, h | .vsv .. :: _, h | .ep .. :: _, h | .ptr .. :: _, h => by simp [isBytes] at h
theorem isBytes_none : ∀ (l : List IV), isBytes l = false → bytesOfIV l = none
  | [], h => by simp [isBytes] at h
  | .int k n :: xs, h => by
    cases k <;> simp only [isBytes] at h <;> first | (simp [bytesOfIV]; done) | skip
    simp only [bytesOfIV, isBytes_none xs h]
    rfl
  | .undef :: _, h | .bool _ :: _, h | .str _ :: _, h | .nilp :: _, h | .nilf :: _, h | .nili :: _, h | .agg _ :: _, h | .tup _ :: _, h | .fsl .. :: _, h | .fp _ :: _, h | .fn .. :: _, h | .gd .. :: _, h | .osl .. :: _, h
  | .vsl .. :: _, h | .vsv .. :: _, h | .ep .. :: _, h | .ptr .. :: _, h => by simp [bytesOfIV]

theorem convK_hit {T : List Blk} {src dst : TypeId} {x : IV} {kt : IV → List Blk → Kd → Option β} (h : convK P T src dst x kt kf = some r) : Hit (aconv P T src dst x) kt kf r := by
  unfold convK at h
  split at h
  · rename_i e hs hd
    split at h
    · rename_i hu
      split at h
      · rename_i a b z l hsl
        rcases cond_some h with ⟨h5, h6⟩ | ⟨h5, h6⟩
        · simp only [Bool.and_eq_true, decide_eq_true_eq] at h5
          have e0 : aconv P T src dst x = rdv T (refs x) ((slc T x).bind fun y => if y.2.2.1 = 1 ∨ y.2.2.2.length = 0 then (bytesOfIV y.2.2.2).map .str else none) := by
            cases x <;> (first | (simp [slc] at hsl; done) | (unfold aconv; rw [hs, hd]; simp only [hu]))
          rw [e0, hsl]
          simp only [Option.bind_some]
          rw [if_pos h5.1, isBytes_eq l h5.2]
          exact .inl ⟨_, _, _, rfl, h6⟩
        · cases h6
      · cases h
    · cases h
  · exact liftK_hit h

theorem mergeK_eq (c : Bool) (a b : Option IV) (kt : IV → Option β) : mergeK c a b kt kf = oel (merge c a b) kt kf := by
  rcases a with _ | a
  · cases c <;> rfl
  · rcases b with _ | b
    · cases a <;> cases c <;> rfl
    · cases a with
      | int k x => cases b with
        | int k' y => simp only [mergeK, merge]; split <;> cases c <;> rfl
        | _ => cases c <;> rfl
      | bool x => cases b <;> cases c <;> rfl
      | _ => cases c <;> rfl
theorem mergeK_hit {c : Bool} {a b : Option IV} {kt : IV → Option β} (h : mergeK c a b kt kf = some r) : Hit1 (merge c a b) kt kf r :=
  oel_hit ((mergeK_eq c a b kt).symm.trans h)

/-! ### Calls -/
/-- What a caller may take for a callee's. -/
def CallEv (callk : CallK β) (call : Nat → CallF) (r : β) : Prop := ∀ (f : FuncId) (as : List IV) (T : List Blk) (k : IV → List Blk → Option β), callk f as T k = some r →
  ∃ v T1, Ev (fun m => call m f as T = some (v, T1)) ∧ k v T1 = some r

def aft0 (H : Hint) (T : List Blk) (f : FuncId) (lent : List Nat) (v : IV) (T1 : List Blk) : R := match H.keep f with
  | false => match frz T1 v with
    | none => none
    | some (r', _) => match scalar v, lent with
      | true, _ => some (r', T, .rd lent)
      | false, [] => some (r', T, .rd [])
      | false, _ => some (r', shut T lent, .ef lent)
  | true => match lent with
    | [] => some (back (fbk [] T.length) (vbk T []) v, T ++ backBs (fbk [] T.length) (vbk T []) 0 T1, .ef ((List.range T1.length).map (T.length + ·)))
    | _ => some (back (fbk [] T.length) (vbk T []) v, shut T lent ++ backBs (fbk [] T.length) (vbk T []) 0 T1, .ef (lent ++ (List.range T1.length).map (T.length + ·)))
def aft1 (H : Hint) (T : List Blk) (f : FuncId) (hd lent : List Nat) (v : IV) (T1 : List Blk) : R := match H.keep f with
  | false => match frz T1 v with
    | none => none
    | some (r', fr) => match scalar v && T1.all scalarB with
      | true => some (r', putBack T hd (backBs (fbk hd T.length) (vbk T hd) 0 T1), .ef (hd ++ (List.range (T1.length - hd.length)).map (T.length + ·)))
      | false => some (r', shut (putBack (shut T lent) hd (backBs (fbk hd T.length) (vbk T hd) 0 T1)) (fr.map (fbk hd T.length)), .ef (hd ++ lent ++ (List.range (T1.length - hd.length)).map (T.length + ·)))
  | true => some (back (fbk hd T.length) (vbk T hd) v, putBack (shut T lent) hd (backBs (fbk hd T.length) (vbk T hd) 0 T1), .ef (hd ++ lent ++ (List.range (T1.length - hd.length)).map (T.length + ·)))
theorem doCall_aft0 {T : List Blk} {f : FuncId} {as as' : List IV} {lent : List Nat} {v : IV} {T1 : List Blk} {call : CallF} (hh : handed T (H.mv f) as = []) (hl : lendL (fun _ => none) T as = some (as', lent)) (hm : call f as' [] = some (v, T1)) :
    doCall H call T f as = aft0 H T f lent v T1 := by
  unfold doCall aft0
  rw [hh]
  simp only [hl, hm]
  rfl
theorem doCall_aft1 {T : List Blk} {f : FuncId} {as as' : List IV} {lent : List Nat} {v : IV} {T1 : List Blk} {call : CallF} (hh : handed T (H.mv f) as ≠ []) (hl : lendL (idx (handed T (H.mv f) as)) T as = some (as', lent))
    (ha : (handed T (H.mv f) as).all (decide <| · < T.length) = true) (hm : call f as' ((handed T (H.mv f) as).map (renB 0 (idx (handed T (H.mv f) as)) T)) = some (v, T1)) :
    doCall H call T f as = aft1 H T f (handed T (H.mv f) as) lent v T1 := by
  unfold doCall aft1
  split
  · rename_i h0
    exact absurd h0 hh
  · simp only [hl, ha, hm]
    rfl

theorem doCallK_ok {callk : CallK β} {call : Nat → CallF} (hc : CallEv callk call r) {T : List Blk} {f : FuncId} {as : List IV} {kt : IV → List Blk → Kd → Option β} (h : doCallK H callk T f as kt = some r) :
    ∃ v T' d, Ev (fun m => doCall H (call m) T f as = some (v, T', d)) ∧ kt v T' d = some r := by
  unfold doCallK at h
  split at h
  · rename_i hh
    split at h
    · cases h
    · rename_i as' lent hl
      obtain ⟨v, T1, h1, h2⟩ := hc _ _ _ _ h
      have e : ∀ m, call m f as' [] = some (v, T1) → doCall H (call m) T f as = aft0 H T f lent v T1 := fun m hm => doCall_aft0 hh hl hm
      unfold aft0 at e
      split at h2
      · rename_i hk
        split at h2
        · cases h2
        · rename_i r' fr hf
          cases hs : scalar v with
          | true =>
            rw [hs] at h2
            exact ⟨_, _, _, h1.mono fun m hm => by rw [e m hm, hk, hf]; simp only [hs], h2⟩
          | false =>
            rw [hs] at h2
            cases lent with
            | nil => exact ⟨_, _, _, h1.mono fun m hm => by rw [e m hm, hk, hf]; simp only [hs], h2⟩
            | cons b bs => exact ⟨_, _, _, h1.mono fun m hm => by rw [e m hm, hk, hf]; simp only [hs], h2⟩
      · rename_i hk
        cases lent with
        | nil => exact ⟨_, _, _, h1.mono fun m hm => by rw [e m hm, hk], h2⟩
        | cons b bs => exact ⟨_, _, _, h1.mono fun m hm => by rw [e m hm, hk], h2⟩
  · rename_i hh
    split at h
    · rename_i as' lent hl ha
      obtain ⟨v, T1, h1, h2⟩ := hc _ _ _ _ h
      have e : ∀ m, _ → doCall H (call m) T f as = aft1 H T f (handed T (H.mv f) as) lent v T1 := fun m hm => doCall_aft1 hh hl ha hm
      unfold aft1 at e
      split at h2
      · rename_i hk
        split at h2
        · cases h2
        · rename_i r' fr hf
          split at h2
          · rename_i hs
            exact ⟨_, _, _, h1.mono fun m hm => by rw [e m hm, hk, hf]; simp only [hs], h2⟩
          · rename_i hs
            exact ⟨_, _, _, h1.mono fun m hm => by rw [e m hm, hk, hf]; simp only [hs], h2⟩
      · rename_i hk
        exact ⟨_, _, _, h1.mono fun m hm => by rw [e m hm, hk], h2⟩
    · cases h

theorem builtinK_hit {T : List Blk} {b : Builtin} {ts : List TypeId} {vs : List IV} {kt : IV → List Blk → Kd → Option β} (h : builtinK P T b ts vs kt kf = some r) : Hit (abuiltin P T b ts vs) kt kf r := by
  unfold builtinK at h
  split at h
  · exact appendK_hit h
  · exact liftK_hit h

theorem aop_nocall {call : CallF} {ops : List Oper} {ch : List (Nat × Bool)} {o : Oper} {s : St} (h : ∀ c, o.op ≠ .call c) : aop P H call ops ch o s = aop P H (fun _ _ _ => none) ops ch o s := by
  unfold aop
  cases ho : o.op with
  | call c => exact absurd ho (h c)
  | _ => simp only

theorem opK_hit {callk : CallK β} {call : Nat → CallF} (hc : CallEv callk call r) {ops : List Oper} {ch : List (Nat × Bool)} {o : Oper} {s : St} {kt : IV → List Blk → Kd → Option β}
    (h : opK P H callk ops ch o s kt kf = some r) : HitE (fun m => aop P H (call m) ops ch o s) kt kf r := by
  unfold opK at h
  split at h
  · rename_i c a b ho
    have e : (fun m => aop P H (call m) ops ch o s) = fun _ => oPick H ops ch s c a b := by funext m; unfold aop; rw [ho]
    rw [e]
    refine Hit.e ?_
    unfold oPick
    split at h
    · rename_i h1 h2
      rw [h1, h2]
      exact hit_rdv (mergeK_hit h)
    · rename_i h1 h2
      rw [h1, h2]
      exact hit_rdv (mergeK_hit h)
    · rename_i g1 g2
      refine .inr ⟨?_, h⟩
      split
      · rename_i k1 k2; exact absurd k2 (g1 _ _ k1)
      · rename_i k1 k2; exact absurd k2 (g2 _ k1)
      · rfl
  · rename_i op t x y k ho
    have e : (fun m => aop P H (call m) ops ch o s) = fun _ => oBin P H ch s op t x y := by funext m; unfold aop; rw [ho]
    rw [e]
    refine Hit.e ?_
    unfold oBin
    split at h
    · rename_i h1 h2
      rw [h1, h2]
      exact hit_rdv (binK_hit h)
    · rename_i g1
      refine .inr ⟨?_, h⟩
      split
      · rename_i k1 k2; exact absurd k2 (g1 _ _ k1)
      · rfl
  · rename_i src dst x ho
    have e : (fun m => aop P H (call m) ops ch o s) = fun _ => oConv P H ch s src dst x := by funext m; unfold aop; rw [ho]
    rw [e]
    refine Hit.e ?_
    unfold oConv
    split at h
    · rename_i h1
      rw [h1]
      exact convK_hit h
    · rename_i h1
      rw [h1]
      exact .inr ⟨rfl, h⟩
  · rename_i t a ho
    have e : (fun m => aop P H (call m) ops ch o s) = fun _ => oLoad P H ch s t a := by funext m; unfold aop; rw [ho]
    rw [e]
    refine Hit.e ?_
    unfold oLoad
    split at h
    · rename_i h1
      rw [h1]
      exact loadK_hit h
    · rename_i h1
      rw [h1]
      exact .inr ⟨rfl, h⟩
  · rename_i t a x ho
    have e : (fun m => aop P H (call m) ops ch o s) = fun _ => oStore P H ch s t a x := by funext m; unfold aop; rw [ho]
    rw [e]
    refine Hit.e ?_
    unfold oStore
    split at h
    · rename_i h1 h2
      rw [h1, h2]
      exact storeK_hit h
    · rename_i g1
      refine .inr ⟨?_, h⟩
      split
      · rename_i k1 k2; exact absurd k2 (g1 _ _ k1)
      · rfl
  · rename_i t x ix ho
    have e : (fun m => aop P H (call m) ops ch o s) = fun _ => oIndexAddr P H ch s t x ix := by funext m; unfold aop; rw [ho]
    rw [e]
    refine Hit.e ?_
    unfold oIndexAddr
    split at h
    · rename_i h1 h2
      rw [h1, h2]
      exact indexAddrK_hit h
    · rename_i g1
      refine .inr ⟨?_, h⟩
      split
      · rename_i k1 k2; exact absurd k2 (g1 _ _ k1)
      · rfl
  · rename_i t x ix ho
    have e : (fun m => aop P H (call m) ops ch o s) = fun _ => oIndex P H ch s t x ix := by funext m; unfold aop; rw [ho]
    rw [e]
    refine Hit.e ?_
    unfold oIndex
    split at h
    · rename_i h1 h2
      rw [h1, h2]
      exact hit_rdv (indexK_hit h)
    · rename_i g1
      refine .inr ⟨?_, h⟩
      split
      · rename_i k1 k2; exact absurd k2 (g1 _ _ k1)
      · rfl
  · rename_i t x lo hi mx ho
    have e : (fun m => aop P H (call m) ops ch o s) = fun _ => oSlice P H ch s t x lo hi mx := by funext m; unfold aop; rw [ho]
    rw [e]
    refine Hit.e ?_
    unfold oSlice
    split at h
    · rename_i h1 h2 h3 h4
      rw [h1, h2, h3, h4]
      exact sliceK_hit h
    · rename_i g1
      refine .inr ⟨?_, h⟩
      split
      · rename_i k1 k2 k3 k4; exact absurd k4 (g1 _ _ _ _ k1 k2 k3)
      · rfl
  · rename_i t l c ho
    have e : (fun m => aop P H (call m) ops ch o s) = fun _ => oMake P H ch s t l c := by funext m; unfold aop; rw [ho]
    rw [e]
    refine Hit.e ?_
    unfold oMake
    split at h
    · rename_i h1
      rw [h1]
      exact makeK_hit h
    · rename_i h1
      rw [h1]
      exact .inr ⟨rfl, h⟩
  · rename_i c ho
    have e : ∀ m, aop P H (call m) ops ch o s = oCall P H (call m) ch s c := by intro m; unfold aop; rw [ho]
    have e' : (fun m => aop P H (call m) ops ch o s) = fun m => oCall P H (call m) ch s c := funext e
    rw [e']
    split at h
    · rename_i vs hvs
      split at h
      · rename_i b hb
        have e2 : (fun m : Nat => oCall P H (call m) ch s c) = fun _ => abuiltin P s.bx b c.argTypes.toList vs := by
          funext m
          unfold oCall
          rw [hvs, hb]
        rw [e2]
        exact (builtinK_hit h).e
      · rename_i f hf
        split at h
        · rename_i g cap hg
          obtain ⟨v, T', d, h1, h2⟩ := doCallK_ok hc h
          refine .inl ⟨v, T', d, h1.mono fun m hm => ?_, h2⟩
          unfold oCall
          rw [hvs, hf]
          simp only [oCallV, hg]
          exact hm
        · cases h
      · rename_i g1 g2
        refine .inr ⟨Ev.all fun m => ?_, h⟩
        unfold oCall
        rw [hvs]
        simp only
    · rename_i hvs
      refine .inr ⟨Ev.all fun m => ?_, h⟩
      unfold oCall
      rw [hvs]
  · rename_i g1 g2 g3 g4 g5 g6 g7 g8 g9 g10
    have e : (fun m => aop P H (call m) ops ch o s) = fun _ => aop P H (fun _ _ _ => none) ops ch o s := by
      funext m
      exact aop_nocall (fun c hcl => g10 c hcl)
    rw [e]
    exact (liftK_hit h).e

theorem opGK_hit {callk : CallK β} {call : Nat → CallF} (hc : CallEv callk call r) {ops : List Oper} {ch : List (Nat × Bool)} {o : Oper} {s : St} {kt : IV → List Blk → Kd → Option β}
    (h : opGK P H callk ops ch o s kt kf = some r) : HitE (fun m => aopG P H (call m) ops ch o s) kt kf r := by
  unfold opGK at h
  rcases opK_hit hc h with ⟨v, T, d, h1, h2⟩ | ⟨h1, h2⟩
  · have other : (∀ m, aop P H (call m) ops ch o s = some (v, T, d) → aopG P H (call m) ops ch o s = some (v, T, d)) → kt v T d = some r → HitE (fun m => aopG P H (call m) ops ch o s) kt kf r :=
      fun e h2 => .inl ⟨v, T, d, h1.mono fun m hm => e m hm, h2⟩
    cases v with
    | gd j w c x => exact .inr ⟨h1.mono fun m hm => by unfold aopG; simp only at hm ⊢; rw [hm], h2⟩
    | _ => exact other (fun m hm => by unfold aopG; rw [hm]) h2
  · refine .inr ⟨h1.mono fun m hm => ?_, h2⟩
    unfold aopG
    simp only at hm ⊢
    rw [hm]

/-! ### Regions -/
theorem set_slot {tm : List IV} {d : Nat} {x : IV} (h : tm[d]? = some x) : tm.set d x = tm := by
  have hl := (List.getElem?_eq_some_iff.1 h).1
  have := List.getElem?_eq_getElem hl
  rw [h] at this
  rw [Option.some.inj this]
  exact List.set_getElem_self hl
theorem fixT_eq {tm : List IV} {d : Option Tmp} {want : Bool} (h : condOf want (d.bind (nth? tm ·)) = some true) {γ : Type} (k : List IV → γ) : fixK tm d (fixT want) k = k tm := by
  cases d with
  | none => rfl
  | some d =>
    simp only [fixK, setK_eq]
    simp only [Option.bind_some, nth?_eq] at h
    cases hx : tm[d]? with
    | none => rw [hx] at h; simp [condOf] at h
    | some x =>
      have hn : nthD tm d = x := by simp [nthD, List.getD_eq_getElem?_getD, hx]
      rw [hn]
      have : fixT want x = x := by
        rw [hx] at h
        cases x with
        | bool b => simp [condOf] at h; simp [fixT, h]
        | gd j w c y => cases y <;> simp [condOf] at h <;> simp [fixT, h]
        | _ => rfl
      rw [this, set_slot hx]
theorem fixF_eq {tm : List IV} {d : Option Tmp} {want : Bool} (h : condOf want (d.bind (nth? tm ·)) = some false) {γ : Type} (k : List IV → γ) : fixK tm d (fixF want) k = k tm := by
  cases d with
  | none => rfl
  | some d =>
    simp only [fixK, setK_eq]
    simp only [Option.bind_some, nth?_eq] at h
    cases hx : tm[d]? with
    | none => rw [hx] at h; simp [condOf] at h
    | some x =>
      have hn : nthD tm d = x := by simp [nthD, List.getD_eq_getElem?_getD, hx]
      rw [hn]
      have : fixF want x = x := by
        rw [hx] at h
        cases x with
        | bool b => simp [condOf] at h; cases b <;> cases want <;> simp_all [fixF]
        | _ => rfl
      rw [this, set_slot hx]

theorem aopsK_ok {callk : CallK β} {call : Nat → CallF} (hc : CallEv callk call r) {ops : List Oper} : ∀ (rest : List Oper) (i : Nat) (s : St) (g : Log) (k : St → Log → Option β),
    aopsK P H callk ops rest i s g k = some r → ∃ s' g', Ev (fun m => aops P H (call m) ops rest i s g = some (s', g')) ∧ k s' g' = some r
  | [], i, s, g, k, h => ⟨s, g, Ev.all fun _ => rfl, h⟩
  | o :: rest, i, s, g, k, h => by
    have ih := aopsK_ok hc (ops := ops) rest (i + 1)
    unfold aopsK at h
    split at h
    · rename_i hg
      rcases opGK_hit hc h with ⟨v, T, d, h1, h2⟩ | ⟨_, h2⟩
      · dsimp only at h2
        rw [putK_eq] at h2
        obtain ⟨s', g', k1, k2⟩ := ih _ _ _ h2
        refine ⟨s', g', (h1.and k1).mono fun m hm => ?_, k2⟩
        unfold aops
        rw [hg]
        simp only at hm
        simp only [hm.1, putK_eq]
        exact hm.2
      · cases h2
    · rename_i j want hg
      split at h
      · cases h
      · rename_i c hcd
        have skip : putK s.tm o.dst unit (fun tm => aopsK P H callk ops rest (i + 1) { tm := tm, bx := s.bx } g k) = some r → ∃ s' g', Ev (fun m => putK s.tm o.dst unit (fun tm => aops P H (call m) ops rest (i + 1) { tm := tm, bx := s.bx } g) = some (s', g')) ∧ k s' g' = some r := by
          intro h2
          rw [putK_eq] at h2
          obtain ⟨s', g', k1, k2⟩ := ih _ _ _ h2
          exact ⟨s', g', k1.mono fun m hm => by rw [putK_eq]; exact hm, k2⟩
        split at h
        · rename_i ht
          rcases opGK_hit hc h with ⟨v, T, d, h1, h2⟩ | ⟨h1, h2⟩
          · dsimp only at h2
            split at h2
            · rename_i fp
              rw [putK_eq] at h2
              obtain ⟨s', g', k1, k2⟩ := ih _ _ _ h2
              refine ⟨s', g', (h1.and k1).mono fun m hm => ?_, k2⟩
              unfold aops
              rw [hg]
              simp only at hm
              simp only [hcd, ht, hm.1, putK_eq]
              exact hm.2
            · rename_i hd
              rcases cond_some h2 with ⟨_, h2⟩ | ⟨hcf, h2⟩
              · cases h2
              · obtain ⟨s', g', k1, k2⟩ := skip h2
                refine ⟨s', g', (h1.and k1).mono fun m hm => ?_, k2⟩
                unfold aops
                rw [hg]
                simp only at hm
                simp only [hcd, ht, hm.1, hcf]
                split
                · rename_i fp he
                  simp only [Option.some.injEq, Prod.mk.injEq] at he
                  exact absurd he.2.2 (hd fp)
                · exact hm.2
          · rcases cond_some h2 with ⟨_, h2⟩ | ⟨hcf, h2⟩
            · cases h2
            · obtain ⟨s', g', k1, k2⟩ := skip h2
              refine ⟨s', g', (h1.and k1).mono fun m hm => ?_, k2⟩
              unfold aops
              rw [hg]
              simp only at hm
              simp only [hcd, ht, hm.1, hcf]
              exact hm.2
        · rename_i ht
          rcases cond_some h with ⟨hcf, h2⟩ | ⟨hcf, h2⟩
          · rw [fixT_eq (by rw [hcd, hcf])] at h2
            rcases opGK_hit hc h2 with ⟨v, T, d, h1, h2⟩ | ⟨_, h2⟩
            · dsimp only at h2
              rw [putK_eq] at h2
              obtain ⟨s', g', k1, k2⟩ := ih _ _ _ h2
              refine ⟨s', g', (h1.and k1).mono fun m hm => ?_, k2⟩
              unfold aops
              rw [hg]
              simp only at hm
              simp only [hcd, ht, hcf, hm.1, putK_eq]
              exact hm.2
            · cases h2
          · rw [fixF_eq (by rw [hcd, hcf])] at h2
            obtain ⟨s', g', k1, k2⟩ := skip h2
            refine ⟨s', g', k1.mono fun m hm => ?_, k2⟩
            unfold aops
            rw [hg]
            simp only [hcd, ht, hcf]
            exact hm

theorem regionK_ok {callk : CallK β} {call : Nat → CallF} (hc : CallEv callk call r) {ops : Array Oper} {draw : Bool} {s : St} {k : St → Option β} (h : regionK P H callk ops draw s k = some r) :
    ∃ s', Ev (fun m => aregion P H (call m) ops draw s = some s') ∧ k s' = some r := by
  unfold regionK at h
  split at h
  · cases h
  · rename_i hg
    obtain ⟨s', g, h1, h2⟩ := aopsK_ok hc _ _ _ _ _ h
    split at h2
    · cases h2
    · rename_i hd
      split at h2
      · rename_i hn
        refine ⟨s', h1.mono fun m hm => ?_, h2⟩
        unfold aregion
        simp only [hg, hm, hn]
        cases draw with
        | false => rfl
        | true =>
          simp only at hd ⊢
          rw [hd]
      · rename_i hn
        rw [force_eq] at h2
        refine ⟨_, h1.mono fun m hm => ?_, h2⟩
        unfold aregion
        simp only [hg, hm, hn, force_eq]
        cases draw with
        | false => rfl
        | true =>
          simp only at hd ⊢
          rw [hd]
end
end Go.Im

namespace Go.Im
open Go
set_option linter.unusedVariables false
set_option linter.unusedSimpArgs false
set_option linter.unnecessarySimpa false
set_option linter.unusedSectionVars false

/-- The loops of a code, each with its place. -/
def loopsOf : Nat → Code → List (Nat × Code)
  | pos, .seq a b => loopsOf (2 * pos) a ++ loopsOf (2 * pos + 1) b
  | pos, .cond _ a b => loopsOf (2 * pos) a ++ loopsOf (2 * pos + 1) b
  | pos, .block _ b => loopsOf (2 * pos) b
  | pos, .loop b => (pos, b) :: loopsOf (2 * pos) b
  | _, _ => []

section
variable {β : Type} {P : Program} {H : Hint} {r : β}

/-- A loop's contract holds. -/
def LoopOK (P : Program) (H : Hint) (call : Nat → CallF) (kp : List Nat) (b : Code) (F : LoopF) : Prop :=
  ∀ (p : Nat) (s : St) (e : Ex) (s' : St), (true, e, s') ∈ F p s → Ev fun m => aloop p kp (aexec P H (call m) m p kp b) m s = some (e, s')

theorem pickK_ok {α : Type} {k : α → Option β} : ∀ {l : List (Bool × α)}, pickK k l = some r → ∃ x, l.find? (·.1) = some (true, x) ∧ k x = some r
  | [], h => by simp [pickK] at h
  | (t, x) :: l, h => by
    unfold pickK at h
    rcases cond_some h with ⟨rfl, h2⟩ | ⟨rfl, h2⟩
    · exact ⟨x, rfl, h2⟩
    · obtain ⟨y, h3, h4⟩ := pickK_ok h2
      exact ⟨y, by simpa using h3, h4⟩

/-- What a code's continuations may be given. -/
def Ends (x : Nat → Option (Ex × St)) (k : Ex → St → Option β) (r : β) : Prop := ∃ e s', Ev (fun m => x m = some (e, s')) ∧ k e s' = some r

theorem aloopK_ok {p : Nat} {kp : List Nat} {body : St → (Ex → St → Option β) → Option β} {run : Nat → St → Option (Ex × St)}
    (hb : ∀ s k, body s k = some r → Ends (fun m => run m s) k r) : ∀ (n : Nat) (s : St) (k : Ex → St → Option β), aloopK p kp body n s k = some r →
      ∃ e s', (∃ m, ∀ j i, m ≤ j → m ≤ i → aloop p kp (run j) i s = some (e, s')) ∧ k e s' = some r
  | 0, s, k, h => by simp [aloopK] at h
  | n + 1, s, k, h => by
    unfold aloopK at h
    obtain ⟨e, s1, ⟨m1, h1⟩, h2⟩ := hb _ _ h
    cases e with
    | normal =>
      obtain ⟨e, s', ⟨m2, h3⟩, h4⟩ := aloopK_ok hb n _ _ h2
      refine ⟨e, s', ⟨m1 + m2 + 1, fun j i hj hi => ?_⟩, h4⟩
      obtain ⟨i, rfl⟩ : ∃ i', i = i' + 1 := ⟨i - 1, by omega⟩
      have e1 := h1 j (by omega)
      simp only at e1
      unfold aloop
      rw [e1]
      exact h3 j i (by omega) (by omega)
    | _ =>
      refine ⟨_, norm p kp s1, ⟨m1 + 1, fun j i hj hi => ?_⟩, h2⟩
      obtain ⟨i, rfl⟩ : ∃ i', i = i' + 1 := ⟨i - 1, by omega⟩
      have e1 := h1 j (by omega)
      simp only at e1
      unfold aloop
      rw [e1]

theorem execK_ok {callk : CallK β} {call : Nat → CallF} (hc : CallEv callk call r) {ls : Nat → Option LoopF} {n p : Nat} {kp : List Nat} : ∀ (c : Code) (pos : Nat) (s : St) (k : Ex → St → Option β),
    (∀ x ∈ loopsOf pos c, ∀ F, ls x.1 = some F → LoopOK P H call kp x.2 F) → execK P H callk ls n p kp pos c s k = some r → Ends (fun m => aexec P H (call m) m p kp c s) k r
  | .skip, pos, s, k, hl, h => ⟨.normal, s, Ev.all fun _ => rfl, h⟩
  | .region id ops draw, pos, s, k, hl, h => by
    simp only [execK] at h
    obtain ⟨s', h1, h2⟩ := regionK_ok hc h
    exact ⟨.normal, s', h1.mono fun m hm => by simp only [aexec, hm], h2⟩
  | .seq a b, pos, s, k, hl, h => by
    simp only [execK] at h
    simp only [loopsOf, List.mem_append] at hl
    obtain ⟨e, s1, h1, h2⟩ := execK_ok hc a _ s _ (fun x hx => hl x (.inl hx)) h
    cases e with
    | normal =>
      obtain ⟨e, s', h3, h4⟩ := execK_ok hc b _ s1 _ (fun x hx => hl x (.inr hx)) h2
      exact ⟨e, s', (h1.and h3).mono fun m hm => by simp only [aexec, hm.1]; exact hm.2, h4⟩
    | _ => exact ⟨_, s1, h1.mono fun m hm => by simp only [aexec]; simp only at hm; rw [hm], h2⟩
  | .cond c a b, pos, s, k, hl, h => by
    simp only [execK] at h
    simp only [loopsOf, List.mem_append] at hl
    split at h
    · rename_i x hx
      have hcd : ∀ b, x = b → condOf true ((tmpOf c).bind (nth? s.tm ·)) = some b ∨ (tmpOf c) = none := by
        intro b hb
        subst hb
        cases c with
        | tmp t =>
          left
          show condOf true (nth? s.tm t) = some x
          simp only [ev] at hx
          split at hx
          · split at hx <;> simp_all
          · cases hx
          · rw [hx]; simp [condOf]
        | _ => exact .inr rfl
      have hT : x = true → ∀ {γ : Type} (k : List IV → γ), fixK s.tm (tmpOf c) (fixT true) k = k s.tm := by
        intro hb γ k
        rcases hcd true hb with h | h
        · exact fixT_eq h k
        · rw [h]; rfl
      have hF : x = false → ∀ {γ : Type} (k : List IV → γ), fixK s.tm (tmpOf c) (fixF true) k = k s.tm := by
        intro hb γ k
        rcases hcd false hb with h | h
        · exact fixF_eq h k
        · rw [h]; rfl
      rcases cond_some h with ⟨rfl, h2⟩ | ⟨rfl, h2⟩
      · rw [hT rfl] at h2
        obtain ⟨e, s', h3, h4⟩ := execK_ok hc a _ s _ (fun x hx => hl x (.inl hx)) h2
        exact ⟨e, s', h3.mono fun m hm => by simp only [aexec, hx]; exact hm, h4⟩
      · rw [hF rfl] at h2
        obtain ⟨e, s', h3, h4⟩ := execK_ok hc b _ s _ (fun x hx => hl x (.inr hx)) h2
        exact ⟨e, s', h3.mono fun m hm => by simp only [aexec, hx]; exact hm, h4⟩
    · cases h
  | .block id b, pos, s, k, hl, h => by
    simp only [execK] at h
    simp only [loopsOf] at hl
    obtain ⟨e, s1, h1, h2⟩ := execK_ok hc b _ s _ hl h
    cases e with
    | exit i =>
      simp only at h2
      by_cases hi : i = id
      · rw [if_pos hi] at h2
        exact ⟨.normal, s1, h1.mono fun m hm => by simp only [aexec]; simp only at hm; rw [hm]; simp only [if_pos hi], h2⟩
      · rw [if_neg hi] at h2
        exact ⟨.exit i, s1, h1.mono fun m hm => by simp only [aexec]; simp only at hm; rw [hm]; simp only [if_neg hi], h2⟩
    | _ => exact ⟨_, s1, h1.mono fun m hm => by simp only [aexec]; simp only at hm; rw [hm], h2⟩
  | .loop b, pos, s, k, hl, h => by
    simp only [execK] at h
    simp only [loopsOf, List.mem_cons] at hl
    split at h
    · obtain ⟨e, s', ⟨m, h3⟩, h4⟩ := aloopK_ok (run := fun m s => aexec P H (call m) m p kp b s) (fun s k hk => execK_ok hc b _ s k (fun x hx => hl x (.inr hx)) hk) _ _ _ h
      exact ⟨e, s', ⟨m, fun j hj => by simp only [aexec]; exact h3 j j hj hj⟩, h4⟩
    · rename_i F hF
      obtain ⟨⟨e, s'⟩, h1, h2⟩ := pickK_ok h
      exact ⟨e, s', (hl (pos, b) (.inl rfl) F hF p _ e s' (List.mem_of_find?_eq_some h1)).mono fun m hm => by simp only [aexec]; exact hm, h2⟩
  | .exit id, pos, s, k, hl, h => ⟨.exit id, s, Ev.all fun _ => rfl, h⟩
  | .label _, pos, s, k, hl, h => ⟨.normal, s, Ev.all fun _ => rfl, h⟩
  | .goto l, pos, s, k, hl, h => ⟨.goto l, s, Ev.all fun _ => rfl, h⟩
  | .ret, pos, s, k, hl, h => ⟨.ret, s, Ev.all fun _ => rfl, h⟩
  | .scope b, pos, s, k, hl, h => by simp [execK] at h
  | .rangeFunc .., pos, s, k, hl, h => by simp [execK] at h

/-- Contracts as functions that a caller takes in the functions' place. -/
def ovrOf (spec : FuncId → Option SpecF) : FuncId → Option CallF := fun f => (spec f).map fun F => fun _ as T => ((F as T).find? (·.1)).map (·.2)

/-- All loops' contracts hold. -/
def LoopsOK (P : Program) (H : Hint) (call : Nat → CallF) (ls : FuncId → Nat → Option LoopF) : Prop :=
  ∀ (f : FuncId) (fn : Func) (c : Code), P.funcs[f]? = some fn → fn.body = some c → ∀ x ∈ loopsOf 1 c, ∀ F, ls f x.1 = some F → LoopOK P H call (H.kp f) x.2 F

theorem callK_ok {spec : FuncId → Option SpecF} {ls : FuncId → Nat → Option LoopF} (hls : LoopsOK P H (acall P H (ovrOf spec)) ls) : ∀ (n : Nat), CallEv (β := β) (callK P H spec ls n) (acall P H (ovrOf spec)) r
  | 0 => fun f as T k h => by simp [callK] at h
  | n + 1 => fun f as T k h => by
    have ih := callK_ok hls n
    unfold callK at h
    have step : ∀ {v : IV} {T1 : List Blk}, (∃ m, ∀ j, m ≤ j → acall P H (ovrOf spec) (j + 1) f as T = some (v, T1)) → Ev fun m => acall P H (ovrOf spec) m f as T = some (v, T1) := by
      rintro v T1 ⟨m, h⟩
      refine ⟨m + 1, fun j hj => ?_⟩
      obtain ⟨i, rfl⟩ : ∃ i, j = i + 1 := ⟨j - 1, by omega⟩
      exact h i (by omega)
    split at h
    · rename_i F hF
      obtain ⟨⟨v, T1⟩, h1, h2⟩ := pickK_ok h
      refine ⟨v, T1, step ⟨0, fun j _ => ?_⟩, h2⟩
      simp only [acall, ovrOf, hF, Option.map_some, h1]
    · rename_i hF
      split at h
      · rename_i fn hfn
        split at h
        · rename_i c hcb
          obtain ⟨e, s, ⟨m, h1⟩, h2⟩ := execK_ok ih c 1 _ _ (hls f fn c hfn hcb) h
          have key : ∀ rs, (e = .normal ∨ e = .ret) → resOf P H s fn.results.toList = some rs → Ev fun m => acall P H (ovrOf spec) m f as T = some (finish T.length (one rs) s.bx) := by
            intro rs he hrs
            refine step ⟨m, fun j hj => ?_⟩
            have h3 := h1 j hj
            simp only at h3
            simp only [acall, ovrOf, hF, Option.map_none, hfn, hcb]
            erw [h3]
            rcases he with rfl | rfl <;> simp only [hrs] <;> rfl
          dsimp only at h2
          split at h2
          · split at h2
            · rename_i rs hrs
              exact ⟨_, _, key rs (.inl rfl) hrs, h2⟩
            · cases h2
          · split at h2
            · rename_i rs hrs
              exact ⟨_, _, key rs (.inr rfl) hrs, h2⟩
            · cases h2
          · cases h2
        · cases h
      · cases h

/-! ### Contracts -/
/-- A function's contract is known to hold. -/
def Known (P : Program) (H : Hint) (f : FuncId) (F : SpecF) : Prop := CallOK P H fun g as T => if g = f then ((F as T).find? (·.1)).map (·.2) else none

theorem ovr_ok {spec : FuncId → Option SpecF} (h : ∀ f F, spec f = some F → Known P H f F) : OvrOK P H (ovrOf spec) := by
  intro f F hF
  unfold ovrOf at hF
  obtain ⟨G, hG, rfl⟩ := Option.map_eq_some_iff.1 hF
  exact h f G hG

/-- A program that the ideal machine serves. -/
structure Fits (P : Program) : Prop where
  order : P.follows .mixedOrders = true
  quiet : ∀ (f : FuncId) (fn : Func), P.funcs[f]? = some fn → fn.body.isSome = true → fn.name ≠ "runtime.NumGoroutine"

/-- A contract of a function, out of its body and what is known of others. -/
theorem known_of (hP : Fits P) {spec : FuncId → Option SpecF} (hs : ∀ f F, spec f = some F → Known P H f F) {ls : FuncId → Nat → Option LoopF} (hls : LoopsOK P H (acall P H (ovrOf spec)) ls)
    {f : FuncId} {F : SpecF} (h : ∀ as T v T1, (true, v, T1) ∈ F as T → ∃ n, callK P H spec ls n f as T (fun v T => some (v, T)) = some (v, T1)) : Known P H f F := by
  intro g as T r T1 hr
  simp only at hr
  split at hr
  · rename_i hg
    subst hg
    obtain ⟨⟨t, v, T2⟩, hF, e⟩ := Option.map_eq_some_iff.1 hr
    · cases e
      have ht := List.find?_some hF
      simp only at ht
      subst ht
      obtain ⟨n, hn⟩ := h as T _ _ (List.mem_of_find?_eq_some hF)
      obtain ⟨v, T2, ⟨m, hm⟩, h2⟩ := callK_ok hls n _ _ _ _ hn
      cases h2
      exact sound hP.order hP.quiet (ovr_ok hs) m g as T _ _ (hm m (Nat.le_refl _))
  · cases hr

theorem loops_none {spec : FuncId → Option SpecF} : LoopsOK P H (acall P H (ovrOf spec)) (fun _ _ => none) := fun _ _ _ _ _ _ _ F hF => by cases hF

/-- A table of contracts. -/
def tab (l : List (FuncId × SpecF)) : FuncId → Option SpecF := fun f => l.lookup f
theorem tab_nil : ∀ f F, tab [] f = some F → Known P H f F := fun f F h => by cases h
theorem tab_cons {f : FuncId} {F : SpecF} {l : List (FuncId × SpecF)} (h : Known P H f F) (hl : ∀ g G, tab l g = some G → Known P H g G) : ∀ g G, tab ((f, F) :: l) g = some G → Known P H g G := by
  intro g G hg
  simp only [tab, List.lookup_cons] at hg
  split at hg
  · rename_i e
    cases hg
    have : g = f := by simpa using e
    subst this
    exact h
  · exact hl g G hg

/-- A LAW'S ANSWER, out of its body and what is known. -/
theorem law_run {spec : FuncId → Option SpecF} {ls : FuncId → Nat → Option LoopF} (hls : LoopsOK P H (acall P H (ovrOf spec)) ls) {f : FuncId} {as : List IV} {b : Bool} {n : Nat}
    (h : callK P H spec ls n f as [] (fun v T => some (v, T)) = some (.bool b, [])) : ∃ k, acall P H (ovrOf spec) k f as [] = some (.bool b, []) := by
  obtain ⟨v, T2, ⟨m, hm⟩, h2⟩ := callK_ok hls n _ _ _ _ h
  cases h2
  exact ⟨m, hm m (Nat.le_refl _)⟩
end
end Go.Im

namespace Go.Im
open Go
set_option linter.unusedVariables false
set_option linter.unusedSimpArgs false
set_option linter.unnecessarySimpa false
set_option linter.unusedSectionVars false

theorem laid_var {P : Program} {W : World} : ∀ (laid : List (String × DataW Unit)) (ps : List MemPlace), DataW.LaidVars P W laid ps → ∀ (n : String) (d : DataW Unit), (n, d) ∈ laid →
    ∃ g t cs fuel p, P.globalNamed n = some g ∧ (P.globals[g]?).map (·.type) = some t ∧ W.var? P n = some cs ∧ DataW.trod (fun _ => ()) P W 0 (fun _ => true) false fuel t cs.toList = some (d, p)
  | [], ps, h, n, d, hm => by cases hm
  | (n0, d0) :: r, ps, h, n, d, hm => by
    simp only [DataW.LaidVars] at h
    obtain ⟨g, t, cs, fuel, p, q, h1, h2, h3, h4, h5, _⟩ := h
    rcases List.mem_cons.1 hm with e | hm
    · cases e
      exact ⟨g, t, cs, fuel, p, h1, h2, h3, h4⟩
    · exact laid_var r q h5 n d hm

/-- A listed table of whole numbers. -/
theorem laid_ints {P : Program} {W : World} {laid : List (String × DataW Unit)} (hp : (laid.all fun x => x.2.handleName?.isNone) = true) (h : laidMetH P laid W) {n : String} {k : IntKind} {ns : List Int}
    (hm : (n, DataW.agg (ns.map fun i => .lit (.int k i))) ∈ laid) {g t e m : Nat} (hg : P.globalNamed n = some g) (ht : (P.globals[g]?).map (·.type) = some t) (hu : P.underlying t = some (.array m e)) (he : P.underlying e = some (.int k)) (hc : P.cellsOf e = 1) (hmt : P.cellsOf t = m) (hm0 : 0 < m) :
    RepC (fun g => g < W.heap.size) W (.fp (ns.map (IV.int k))) (.pointer (some ⟨g, 0, none⟩)) := by
  have h' : laidMet P laid W := by
    unfold laidMetH at h
    have : (laid.filter fun x => x.2.handleName?.isSome) = [] := by
      rw [List.filter_eq_nil_iff]
      intro x hx
      have := List.all_eq_true.1 hp x hx
      rw [Option.isNone_iff_eq_none] at this
      simp [this]
    rw [this] at h
    exact h
  obtain ⟨ps, hl, _, _⟩ := h'
  obtain ⟨g', t', cs, fuel, p, h1, h2, h3, h4⟩ := laid_var laid ps hl n _ hm
  obtain rfl := Option.some.inj (hg.symm.trans h1)
  obtain rfl := Option.some.inj (ht.symm.trans h2)
  obtain ⟨xs, q, _, ex, hcl, hxl, hel⟩ := DataW.trod_array hu h4
  have e3 : xs.map (·.1) = ns.map fun i => DataW.lit (.int k i) := (DataW.agg.inj (Prod.mk.inj ex).1).symm
  have hlen : ns.length = m := by
    have := congrArg List.length e3
    simp at this
    omega
  have hcell : ∀ i n0, ns[i]? = some n0 → W.cell? ⟨g, i, none⟩ = some (.int k n0) := by
    intro i n0 hi
    have him : i < m := by rw [← hlen]; exact (List.getElem?_eq_some_iff.1 hi).1
    have hE := hel i him
    rw [hc, Nat.mul_one, List.getElem?_eq_getElem (by omega)] at hE
    obtain ⟨z, e1, e2, _⟩ := DataW.trod_int he hE
    have e4 : (xs.map (·.1))[i]? = (ns.map fun i => (DataW.lit (.int k i) : DataW Unit))[i]? := by rw [e3]
    rw [List.getElem?_map, List.getElem?_map, List.getElem?_eq_getElem (by omega : i < xs.length), hi, e2] at e4
    simp only [Option.map_some, Option.some.injEq, DataW.lit.injEq, Lit.int.injEq, true_and] at e4
    subst e4
    rw [World.var?_cell hg h3 i]
    have h0 : ((cs.toList.drop i).take 1)[0]? = some (.int k z) := by rw [e1]; rfl
    have : cs.toList[i]? = some (.int k z) := by simpa using h0
    simpa using this
  simp only [RepC]
  refine ⟨g, 0, rfl, ?_, ?_⟩
  · have h0 : W.cell? ⟨g, 0, none⟩ = some (.int k ns[0]) := hcell 0 ns[0] (List.getElem?_eq_getElem (by omega))
    simp only [World.cell?] at h0
    split at h0
    · rename_i h9
      exact (Array.getElem?_eq_some_iff.1 h9).1
    · cases h0
  · have key : ∀ (l : List Int) (o : Nat), (∀ i n0, l[i]? = some n0 → W.cell? ⟨g, o + i, none⟩ = some (.int k n0)) → RepCs (fun g => g < W.heap.size) W g o (l.map (IV.int k)) := by
      intro l
      induction l with
      | nil => intro o _; simp [RepCs]
      | cons x l ih =>
        intro o hl
        simp only [List.map_cons, RepCs]
        refine ⟨⟨rfl, .int k x, by simpa using hl 0 x rfl, by simp [RepC]⟩, ih (o + 1) fun i n0 hi => ?_⟩
        have := hl (i + 1) n0 (by simpa using hi)
        rwa [show o + 1 + i = o + (i + 1) by omega]
    exact key ns 0 fun i n0 hi => by rw [Nat.zero_add]; exact hcell i n0 hi
end Go.Im

namespace Go.Im
open Go
set_option linter.unusedVariables false
set_option linter.unusedSimpArgs false
set_option linter.unnecessarySimpa false
set_option linter.unusedSectionVars false

/-- A function's code. -/
def codeOf (P : Program) (f : FuncId) : Code := ((P.funcs[f]?).bind (·.body)).getD .skip
/-- A loop's body, by its place. -/
def loopAt (P : Program) (f : FuncId) (q : Nat) : Code := ((loopsOf 1 (codeOf P f)).lookup q).getD .skip

noncomputable section
variable (P : Program) (H : Hint)
/-- The state at a loop's head (for a look). -/
def headK (spec : FuncId → Option SpecF) (ls : FuncId → Nat → Option LoopF) (n : Nat) (f : FuncId) (q : Nat) (xs : List IV) (T : List Blk) : Option (Ex × St) :=
  execK P H (callK P H spec ls n) (fun r => match Nat.beq r q with | true => some (fun _ s => [(true, .exit 424242, s)]) | false => ls f r) n T.length (H.kp f) 1 (codeOf P f)
    { tm := xs ++ List.replicate ((((P.funcs[f]?).map (·.ntmps)).getD 0) - xs.length) .undef, bx := T } fun e s => some (e, s)
/-- One round of a loop. -/
def roundK (spec : FuncId → Option SpecF) (ls : FuncId → Nat → Option LoopF) (n p : Nat) (f : FuncId) (q : Nat) (s : St) : Option (Ex × St) :=
  execK P H (callK P H spec ls n) (ls f) n p (H.kp f) (2 * q) (loopAt P f q) s fun e s => some (e, norm p (H.kp f) s)
end

section
variable {P : Program} {H : Hint}
/-- A loop runs on from a state and ends so. -/
def Runs (P : Program) (H : Hint) (call : Nat → CallF) (p : Nat) (kp : List Nat) (b : Code) (s : St) (e : Ex) (s' : St) : Prop :=
  ∃ m, ∀ j i, m ≤ j → m ≤ i → aloop p kp (aexec P H (call j) j p kp b) i s = some (e, s')

theorem Runs.ev {call : Nat → CallF} {p : Nat} {kp : List Nat} {b : Code} {s s' : St} {e : Ex} (h : Runs P H call p kp b s e s') : Ev fun m => aloop p kp (aexec P H (call m) m p kp b) m s = some (e, s') := by
  obtain ⟨m, h⟩ := h
  exact ⟨m, fun j hj => h j j hj hj⟩

theorem roundK_run {spec : FuncId → Option SpecF} {ls : FuncId → Nat → Option LoopF} (hls : LoopsOK P H (acall P H (ovrOf spec)) ls) {f : FuncId} {q p n : Nat}
    (hin : ∀ x ∈ loopsOf (2 * q) (loopAt P f q), ∀ F, ls f x.1 = some F → LoopOK P H (acall P H (ovrOf spec)) (H.kp f) x.2 F) {s : St} {e : Ex} {s' : St}
    (h : roundK P H spec ls n p f q s = some (e, s')) :
    ∃ s1, Ev (fun m => aexec P H (acall P H (ovrOf spec) m) m p (H.kp f) (loopAt P f q) s = some (e, s1)) ∧ norm p (H.kp f) s1 = s' := by
  unfold roundK at h
  obtain ⟨e1, s1, h1, h2⟩ := execK_ok (callK_ok hls n) _ _ _ _ hin h
  simp only [Option.some.injEq, Prod.mk.injEq] at h2
  obtain ⟨rfl, h2⟩ := h2
  exact ⟨s1, h1, h2⟩

/-- One round, and on. -/
theorem Runs.step {spec : FuncId → Option SpecF} {ls : FuncId → Nat → Option LoopF} (hls : LoopsOK P H (acall P H (ovrOf spec)) ls) {f : FuncId} {q p n : Nat}
    (hin : ∀ x ∈ loopsOf (2 * q) (loopAt P f q), ∀ F, ls f x.1 = some F → LoopOK P H (acall P H (ovrOf spec)) (H.kp f) x.2 F) {s s1 s' : St} {e : Ex}
    (h : roundK P H spec ls n p f q s = some (.normal, s1)) (hr : Runs P H (acall P H (ovrOf spec)) p (H.kp f) (loopAt P f q) s1 e s') : Runs P H (acall P H (ovrOf spec)) p (H.kp f) (loopAt P f q) s e s' := by
  obtain ⟨s2, ⟨m1, h1⟩, h2⟩ := roundK_run hls hin h
  obtain ⟨m2, h3⟩ := hr
  refine ⟨m1 + m2 + 1, fun j i hj hi => ?_⟩
  obtain ⟨i, rfl⟩ : ∃ i', i = i' + 1 := ⟨i - 1, by omega⟩
  unfold aloop
  rw [h1 j (by omega)]
  simp only [h2]
  exact h3 j i (by omega) (by omega)
/-- The last round. -/
theorem Runs.last {spec : FuncId → Option SpecF} {ls : FuncId → Nat → Option LoopF} (hls : LoopsOK P H (acall P H (ovrOf spec)) ls) {f : FuncId} {q p n : Nat}
    (hin : ∀ x ∈ loopsOf (2 * q) (loopAt P f q), ∀ F, ls f x.1 = some F → LoopOK P H (acall P H (ovrOf spec)) (H.kp f) x.2 F) {s s' : St} {e : Ex} (he : e ≠ .normal)
    (h : roundK P H spec ls n p f q s = some (e, s')) : Runs P H (acall P H (ovrOf spec)) p (H.kp f) (loopAt P f q) s e s' := by
  obtain ⟨s2, ⟨m1, h1⟩, h2⟩ := roundK_run hls hin h
  refine ⟨m1 + 1, fun j i hj hi => ?_⟩
  obtain ⟨i, rfl⟩ : ∃ i', i = i' + 1 := ⟨i - 1, by omega⟩
  unfold aloop
  have h3 := h1 j (by omega)
  cases e with
  | normal => exact absurd rfl he
  | _ =>
    rw [h3]
    simp only [h2]

/-- A table of loops' contracts: the function, the loop's place, the contract. -/
def ltab : List (FuncId × Nat × LoopF) → FuncId → Nat → Option LoopF
  | [] => fun _ _ => none
  | (f, q, F) :: l => fun g r => match Nat.beq g f && Nat.beq r q with
    | true => some F
    | false => ltab l g r

/-- No two loops of a function have one place. -/
def onceB : List Nat → Bool
  | [] => true
  | x :: xs => !(xs.contains x) && onceB xs
def placesB (P : Program) (f : FuncId) : Bool := onceB ((loopsOf 1 (codeOf P f)).map (·.1))

theorem lookup_once : ∀ (l : List (Nat × Code)) (q : Nat) (b : Code), onceB (l.map (·.1)) = true → (q, b) ∈ l → l.lookup q = some b
  | [], _, _, _, h => by cases h
  | (r, c) :: l, q, b, ho, h => by
    simp only [List.map_cons, onceB, Bool.and_eq_true, Bool.not_eq_true'] at ho
    rcases List.mem_cons.1 h with h' | h'
    · cases h'
      simp
    · have : q ≠ r := by
        intro e
        subst e
        have : (l.map (·.1)).contains q = true := by
          rw [List.contains_iff_mem]
          exact List.mem_map.2 ⟨(q, b), h', rfl⟩
        rw [this] at ho
        cases ho.1
      rw [List.lookup_cons]
      have hb : (q == r) = false := by simpa using this
      rw [hb]
      exact lookup_once l q b ho.2 h'

theorem ltab_nil {call : Nat → CallF} : LoopsOK P H call (ltab []) := fun _ _ _ _ _ _ _ F hF => by cases hF
theorem ltab_cons {call : Nat → CallF} {f : FuncId} {q : Nat} {F : LoopF} {l : List (FuncId × Nat × LoopF)} (hp : placesB P f = true) (h : LoopOK P H call (H.kp f) (loopAt P f q) F)
    (hl : LoopsOK P H call (ltab l)) : LoopsOK P H call (ltab ((f, q, F) :: l)) := by
  intro g fn c hg hc x hx G hG
  simp only [ltab] at hG
  split at hG
  · rename_i hb
    cases hG
    simp only [Bool.and_eq_true] at hb
    obtain ⟨hg', hq⟩ := hb
    obtain rfl := Nat.eq_of_beq_eq_true hg'
    have hq := Nat.eq_of_beq_eq_true hq
    have hcode : codeOf P g = c := by simp [codeOf, hg, hc]
    have : loopAt P g q = x.2 := by
      unfold loopAt
      rw [hcode, ← hq, lookup_once _ x.1 x.2 (by rw [← hcode]; exact hp) hx]
      rfl
    rw [← this]
    exact h
  · exact hl g fn c hg hc x hx G hG
/-- The contracts of the loops within a loop. -/
theorem inner_of {call : Nat → CallF} {f : FuncId} {q : Nat} {ls : FuncId → Nat → Option LoopF} (h : (loopsOf (2 * q) (loopAt P f q)).all (fun x => (ls f x.1).isNone) = true) :
    ∀ x ∈ loopsOf (2 * q) (loopAt P f q), ∀ F, ls f x.1 = some F → LoopOK P H call (H.kp f) x.2 F := by
  intro x hx F hF
  have := List.all_eq_true.1 h x hx
  rw [hF] at this
  cases this

/-! ### States by their live slots -/
/-- Slots of which those at some places hold values, and the others nothing. -/
def spread : List Nat → Nat → Nat → List IV → List IV
  | _, _, 0, _ => []
  | [], _, n + 1, _ => .undef :: spread [] 0 n []
  | k :: ks, i, n + 1, vs => match Nat.beq k i with
    | true => (vs.headD .undef) :: spread ks (i + 1) n vs.tail
    | false => .undef :: spread (k :: ks) (i + 1) n vs
def isUndef : IV → Bool
  | .undef => true
  | _ => false
def gather : List Nat → Nat → List IV → Option (List IV)
  | _, _, [] => some []
  | [], i, x :: xs => match isUndef x with
    | true => gather [] (i + 1) xs
    | false => none
  | k :: ks, i, x :: xs => match Nat.beq k i with
    | true => (gather ks (i + 1) xs).map fun vs => x :: vs
    | false => match isUndef x with
      | true => gather (k :: ks) (i + 1) xs
      | false => none
theorem isUndef_eq {x : IV} (h : isUndef x = true) : x = .undef := by cases x <;> simp [isUndef] at h; rfl
theorem spread_nil : ∀ (n i j : Nat) (vs ws : List IV), spread [] i n vs = spread [] j n ws
  | 0, _, _, _, _ => by simp [spread]
  | n + 1, _, _, _, _ => by simp [spread]
theorem spread_gather : ∀ (tm : List IV) (ks : List Nat) (i : Nat) (vs : List IV), gather ks i tm = some vs → spread ks i tm.length vs = tm
  | [], ks, i, vs, _ => by simp [spread]
  | x :: xs, [], i, vs, h => by
    simp only [gather] at h
    split at h
    · rename_i hx
      have := spread_gather xs [] (i + 1) vs h
      simp only [List.length_cons, spread]
      rw [isUndef_eq hx, spread_nil _ 0 (i + 1) [] vs, this]
    · cases h
  | x :: xs, k :: ks, i, vs, h => by
    simp only [gather] at h
    split at h
    · rename_i hk
      obtain ⟨ws, h1, rfl⟩ := Option.map_eq_some_iff.1 h
      simp only [List.length_cons, spread, hk, List.headD_cons, List.tail_cons]
      rw [spread_gather xs ks (i + 1) ws h1]
    · rename_i hk
      split at h
      · rename_i hx
        simp only [List.length_cons, spread, hk]
        rw [spread_gather xs (k :: ks) (i + 1) vs h, isUndef_eq hx]
      · cases h

/-- A state at a loop of a function: what its live slots hold, and the blocks. -/
def stAt (P : Program) (H : Hint) (f : FuncId) (vs : List IV) (bx : List Blk) : St := ⟨spread (H.kp f) 0 (((P.funcs[f]?).map (·.ntmps)).getD 0) vs, bx⟩
/-- A loop's contract over live slots. -/
abbrev LiveF := List IV → List Blk → List (Bool × Ex × List IV × List Blk)
def loopF (P : Program) (H : Hint) (f : FuncId) (p0 : Nat) (G : LiveF) : LoopF := fun p s => match Nat.beq p p0 && Nat.beq s.tm.length (((P.funcs[f]?).map (·.ntmps)).getD 0), gather (H.kp f) 0 s.tm with
  | true, some vs => (G vs s.bx).map fun x => (x.1, x.2.1, stAt P H f x.2.2.1 x.2.2.2)
  | _, _ => []

theorem loopF_ok {call : Nat → CallF} {f : FuncId} {q p0 : Nat} {G : LiveF}
    (h : ∀ vs bx e vs' bx', (true, e, vs', bx') ∈ G vs bx → Runs P H call p0 (H.kp f) (loopAt P f q) (stAt P H f vs bx) e (stAt P H f vs' bx')) : LoopOK P H call (H.kp f) (loopAt P f q) (loopF P H f p0 G) := by
  intro p s e s' hm
  unfold loopF at hm
  split at hm
  · rename_i vs hb hg
    simp only [Bool.and_eq_true] at hb
    have hp := Nat.eq_of_beq_eq_true hb.1
    have hl := Nat.eq_of_beq_eq_true hb.2
    subst hp
    obtain ⟨⟨t, e1, vs', bx'⟩, h1, h2⟩ := List.mem_map.1 hm
    simp only [Prod.mk.injEq] at h2
    obtain ⟨rfl, rfl, rfl⟩ := h2
    have hs : s = stAt P H f vs s.bx := by
      obtain ⟨tm, bx⟩ := s
      simp only [stAt, St.mk.injEq, and_true]
      rw [← hl]
      exact (spread_gather tm (H.kp f) 0 vs hg).symm
    rw [hs]
    exact (h vs s.bx e1 vs' bx' h1).ev
  · cases hm
end
end Go.Im
