/- What Parse's loop comes to. It bears no condition. -/
import Derived.Test.YthnleapnhkkeoaaDoorSpF
namespace Go.Proofs.YthnleapnhkkeoaaDoor
open Go Go.Im
set_option linter.unusedVariables false
set_option linter.unusedSimpArgs false
variable (sp : FuncId → Option SpecF)

def secAt (s : List UInt8) (a : Nat) : Nat → Int
  | 0 => 0
  | i + 1 => if i < a then more (secAt s a i) s i else secAt s a i
def numAt (s : List UInt8) (a : Nat) : Nat → Int
  | 0 => 0
  | i + 1 => if a < i then more (numAt s a i) s i else numAt s a i
def cellAt (s : List UInt8) (a : Nat) : Nat → Nat → Int
  | 0 => fun _ => 0
  | i + 1 => if a < i then (fun k => bif Nat.beq k (i - a - 1) then chr s i else cellAt s a i k) else cellAt s a i
def badAt (s : List UInt8) (a i : Nat) : Bool := !(Nat.beq i a) && noDig s i
noncomputable abbrev paT (s : List UInt8) (a i : Nat) : St := paS s 0 0 a (secAt s a i) (numAt s a i) (s.length : Nat) (i : Nat) (tenB (cellAt s a i))
noncomputable abbrev paR (s : List UInt8) (a i : Nat) : St := paS s 0 40 a (secAt s a i) (numAt s a i) (s.length : Nat) (i : Nat) (tenB (cellAt s a i))
theorem pe_1 (s : List UInt8) (n0 n1 sec n : Int) (c : Nat → Int) : Rd sp 16 506 (paS s n0 n1 1 sec n 12 12 (tenB c)) = some (.exit 0, paS s n0 n1 1 sec n 12 12 (tenB c)) := by kernel_rfl
theorem pe_2 (s : List UInt8) (n0 n1 sec n : Int) (c : Nat → Int) : Rd sp 16 506 (paS s n0 n1 2 sec n 13 13 (tenB c)) = some (.exit 0, paS s n0 n1 2 sec n 13 13 (tenB c)) := by kernel_rfl
theorem pe_3 (s : List UInt8) (n0 n1 sec n : Int) (c : Nat → Int) : Rd sp 16 506 (paS s n0 n1 3 sec n 14 14 (tenB c)) = some (.exit 0, paS s n0 n1 3 sec n 14 14 (tenB c)) := by kernel_rfl
theorem pe_4 (s : List UInt8) (n0 n1 sec n : Int) (c : Nat → Int) : Rd sp 16 506 (paS s n0 n1 4 sec n 15 15 (tenB c)) = some (.exit 0, paS s n0 n1 4 sec n 15 15 (tenB c)) := by kernel_rfl
theorem pe_5 (s : List UInt8) (n0 n1 sec n : Int) (c : Nat → Int) : Rd sp 16 506 (paS s n0 n1 5 sec n 16 16 (tenB c)) = some (.exit 0, paS s n0 n1 5 sec n 16 16 (tenB c)) := by kernel_rfl
theorem pe_6 (s : List UInt8) (n0 n1 sec n : Int) (c : Nat → Int) : Rd sp 16 506 (paS s n0 n1 6 sec n 17 17 (tenB c)) = some (.exit 0, paS s n0 n1 6 sec n 17 17 (tenB c)) := by kernel_rfl
theorem pe_7 (s : List UInt8) (n0 n1 sec n : Int) (c : Nat → Int) : Rd sp 16 506 (paS s n0 n1 7 sec n 18 18 (tenB c)) = some (.exit 0, paS s n0 n1 7 sec n 18 18 (tenB c)) := by kernel_rfl
theorem pe_8 (s : List UInt8) (n0 n1 sec n : Int) (c : Nat → Int) : Rd sp 16 506 (paS s n0 n1 8 sec n 19 19 (tenB c)) = some (.exit 0, paS s n0 n1 8 sec n 19 19 (tenB c)) := by kernel_rfl
theorem pe_9 (s : List UInt8) (n0 n1 sec n : Int) (c : Nat → Int) : Rd sp 16 506 (paS s n0 n1 9 sec n 20 20 (tenB c)) = some (.exit 0, paS s n0 n1 9 sec n 20 20 (tenB c)) := by kernel_rfl
theorem pe_10 (s : List UInt8) (n0 n1 sec n : Int) (c : Nat → Int) : Rd sp 16 506 (paS s n0 n1 10 sec n 21 21 (tenB c)) = some (.exit 0, paS s n0 n1 10 sec n 21 21 (tenB c)) := by kernel_rfl
theorem pr_end (s : List UInt8) (u v : Int) (w : Nat → Int) {a : Nat} (h1 : 1 ≤ a) (h2 : a ≤ 10) : Rd sp 16 506 (paS s 0 0 (a : Nat) u v ((a + 11 : Nat) : Int) ((a + 11 : Nat) : Int) (tenB w)) = some (.exit 0, paS s 0 0 (a : Nat) u v ((a + 11 : Nat) : Int) ((a + 11 : Nat) : Int) (tenB w)) := by
  have : a = 1 ∨ a = 2 ∨ a = 3 ∨ a = 4 ∨ a = 5 ∨ a = 6 ∨ a = 7 ∨ a = 8 ∨ a = 9 ∨ a = 10 := by omega
  rcases this with rfl | rfl | rfl | rfl | rfl | rfl | rfl | rfl | rfl | rfl
  · exact pe_1 sp s 0 0 u v w
  · exact pe_2 sp s 0 0 u v w
  · exact pe_3 sp s 0 0 u v w
  · exact pe_4 sp s 0 0 u v w
  · exact pe_5 sp s 0 0 u v w
  · exact pe_6 sp s 0 0 u v w
  · exact pe_7 sp s 0 0 u v w
  · exact pe_8 sp s 0 0 u v w
  · exact pe_9 sp s 0 0 u v w
  · exact pe_10 sp s 0 0 u v w
/-- One round, whatever the places. -/
noncomputable def pstep (s : List UInt8) (a i : Nat) (sec n : Int) (c : Nat → Int) : Option (Ex × St) :=
  bif badAt s a i then some (.ret, paS s 0 40 a sec n (s.length : Nat) (i : Nat) (tenB c))
  else some (.normal, paS s 0 0 a (if i < a then more sec s i else sec) (if a < i then more n s i else n) (s.length : Nat) ((i + 1 : Nat) : Int) (tenB (if a < i then (fun k => bif Nat.beq k (i - a - 1) then chr s i else c k) else c)))
theorem ps_1 (s : List UInt8) (sec n : Int) (c : Nat → Int) (hl : s.length = 12) : ∀ i, i < 12 → Rd sp 16 506 (paS s 0 0 (1 : Nat) sec n (s.length : Nat) (i : Nat) (tenB c)) = pstep s 1 i sec n c := by
  intro i hi
  have hi : i = 0 ∨ i = 1 ∨ i = 2 ∨ i = 3 ∨ i = 4 ∨ i = 5 ∨ i = 6 ∨ i = 7 ∨ i = 8 ∨ i = 9 ∨ i = 10 ∨ i = 11 := by omega
  rcases hi with rfl | rfl | rfl | rfl | rfl | rfl | rfl | rfl | rfl | rfl | rfl | rfl
  · refine (pr_1_0 sp s 0 0 sec n (s.length : Nat) c).trans ?_
    unfold pstep; rw [hl]
    rfl
  · refine (pr_1_1 sp s 0 0 sec n (s.length : Nat) c).trans ?_
    unfold pstep; rw [hl]
    rfl
  · refine (pr_1_2 sp s 0 0 sec n (s.length : Nat) c).trans ?_
    unfold pstep; rw [hl]
    rfl
  · refine (pr_1_3 sp s 0 0 sec n (s.length : Nat) c).trans ?_
    unfold pstep; rw [hl]
    rfl
  · refine (pr_1_4 sp s 0 0 sec n (s.length : Nat) c).trans ?_
    unfold pstep; rw [hl]
    rfl
  · refine (pr_1_5 sp s 0 0 sec n (s.length : Nat) c).trans ?_
    unfold pstep; rw [hl]
    rfl
  · refine (pr_1_6 sp s 0 0 sec n (s.length : Nat) c).trans ?_
    unfold pstep; rw [hl]
    rfl
  · refine (pr_1_7 sp s 0 0 sec n (s.length : Nat) c).trans ?_
    unfold pstep; rw [hl]
    rfl
  · refine (pr_1_8 sp s 0 0 sec n (s.length : Nat) c).trans ?_
    unfold pstep; rw [hl]
    rfl
  · refine (pr_1_9 sp s 0 0 sec n (s.length : Nat) c).trans ?_
    unfold pstep; rw [hl]
    rfl
  · refine (pr_1_10 sp s 0 0 sec n (s.length : Nat) c).trans ?_
    unfold pstep; rw [hl]
    rfl
  · refine (pr_1_11 sp s 0 0 sec n (s.length : Nat) c).trans ?_
    unfold pstep; rw [hl]
    rfl
theorem ps_2 (s : List UInt8) (sec n : Int) (c : Nat → Int) (hl : s.length = 13) : ∀ i, i < 13 → Rd sp 16 506 (paS s 0 0 (2 : Nat) sec n (s.length : Nat) (i : Nat) (tenB c)) = pstep s 2 i sec n c := by
  intro i hi
  have hi : i = 0 ∨ i = 1 ∨ i = 2 ∨ i = 3 ∨ i = 4 ∨ i = 5 ∨ i = 6 ∨ i = 7 ∨ i = 8 ∨ i = 9 ∨ i = 10 ∨ i = 11 ∨ i = 12 := by omega
  rcases hi with rfl | rfl | rfl | rfl | rfl | rfl | rfl | rfl | rfl | rfl | rfl | rfl | rfl
  · refine (pr_2_0 sp s 0 0 sec n (s.length : Nat) c).trans ?_
    unfold pstep; rw [hl]
    rfl
  · refine (pr_2_1 sp s 0 0 sec n (s.length : Nat) c).trans ?_
    unfold pstep; rw [hl]
    rfl
  · refine (pr_2_2 sp s 0 0 sec n (s.length : Nat) c).trans ?_
    unfold pstep; rw [hl]
    rfl
  · refine (pr_2_3 sp s 0 0 sec n (s.length : Nat) c).trans ?_
    unfold pstep; rw [hl]
    rfl
  · refine (pr_2_4 sp s 0 0 sec n (s.length : Nat) c).trans ?_
    unfold pstep; rw [hl]
    rfl
  · refine (pr_2_5 sp s 0 0 sec n (s.length : Nat) c).trans ?_
    unfold pstep; rw [hl]
    rfl
  · refine (pr_2_6 sp s 0 0 sec n (s.length : Nat) c).trans ?_
    unfold pstep; rw [hl]
    rfl
  · refine (pr_2_7 sp s 0 0 sec n (s.length : Nat) c).trans ?_
    unfold pstep; rw [hl]
    rfl
  · refine (pr_2_8 sp s 0 0 sec n (s.length : Nat) c).trans ?_
    unfold pstep; rw [hl]
    rfl
  · refine (pr_2_9 sp s 0 0 sec n (s.length : Nat) c).trans ?_
    unfold pstep; rw [hl]
    rfl
  · refine (pr_2_10 sp s 0 0 sec n (s.length : Nat) c).trans ?_
    unfold pstep; rw [hl]
    rfl
  · refine (pr_2_11 sp s 0 0 sec n (s.length : Nat) c).trans ?_
    unfold pstep; rw [hl]
    rfl
  · refine (pr_2_12 sp s 0 0 sec n (s.length : Nat) c).trans ?_
    unfold pstep; rw [hl]
    rfl
theorem ps_3 (s : List UInt8) (sec n : Int) (c : Nat → Int) (hl : s.length = 14) : ∀ i, i < 14 → Rd sp 16 506 (paS s 0 0 (3 : Nat) sec n (s.length : Nat) (i : Nat) (tenB c)) = pstep s 3 i sec n c := by
  intro i hi
  have hi : i = 0 ∨ i = 1 ∨ i = 2 ∨ i = 3 ∨ i = 4 ∨ i = 5 ∨ i = 6 ∨ i = 7 ∨ i = 8 ∨ i = 9 ∨ i = 10 ∨ i = 11 ∨ i = 12 ∨ i = 13 := by omega
  rcases hi with rfl | rfl | rfl | rfl | rfl | rfl | rfl | rfl | rfl | rfl | rfl | rfl | rfl | rfl
  · refine (pr_3_0 sp s 0 0 sec n (s.length : Nat) c).trans ?_
    unfold pstep; rw [hl]
    rfl
  · refine (pr_3_1 sp s 0 0 sec n (s.length : Nat) c).trans ?_
    unfold pstep; rw [hl]
    rfl
  · refine (pr_3_2 sp s 0 0 sec n (s.length : Nat) c).trans ?_
    unfold pstep; rw [hl]
    rfl
  · refine (pr_3_3 sp s 0 0 sec n (s.length : Nat) c).trans ?_
    unfold pstep; rw [hl]
    rfl
  · refine (pr_3_4 sp s 0 0 sec n (s.length : Nat) c).trans ?_
    unfold pstep; rw [hl]
    rfl
  · refine (pr_3_5 sp s 0 0 sec n (s.length : Nat) c).trans ?_
    unfold pstep; rw [hl]
    rfl
  · refine (pr_3_6 sp s 0 0 sec n (s.length : Nat) c).trans ?_
    unfold pstep; rw [hl]
    rfl
  · refine (pr_3_7 sp s 0 0 sec n (s.length : Nat) c).trans ?_
    unfold pstep; rw [hl]
    rfl
  · refine (pr_3_8 sp s 0 0 sec n (s.length : Nat) c).trans ?_
    unfold pstep; rw [hl]
    rfl
  · refine (pr_3_9 sp s 0 0 sec n (s.length : Nat) c).trans ?_
    unfold pstep; rw [hl]
    rfl
  · refine (pr_3_10 sp s 0 0 sec n (s.length : Nat) c).trans ?_
    unfold pstep; rw [hl]
    rfl
  · refine (pr_3_11 sp s 0 0 sec n (s.length : Nat) c).trans ?_
    unfold pstep; rw [hl]
    rfl
  · refine (pr_3_12 sp s 0 0 sec n (s.length : Nat) c).trans ?_
    unfold pstep; rw [hl]
    rfl
  · refine (pr_3_13 sp s 0 0 sec n (s.length : Nat) c).trans ?_
    unfold pstep; rw [hl]
    rfl
theorem ps_4 (s : List UInt8) (sec n : Int) (c : Nat → Int) (hl : s.length = 15) : ∀ i, i < 15 → Rd sp 16 506 (paS s 0 0 (4 : Nat) sec n (s.length : Nat) (i : Nat) (tenB c)) = pstep s 4 i sec n c := by
  intro i hi
  have hi : i = 0 ∨ i = 1 ∨ i = 2 ∨ i = 3 ∨ i = 4 ∨ i = 5 ∨ i = 6 ∨ i = 7 ∨ i = 8 ∨ i = 9 ∨ i = 10 ∨ i = 11 ∨ i = 12 ∨ i = 13 ∨ i = 14 := by omega
  rcases hi with rfl | rfl | rfl | rfl | rfl | rfl | rfl | rfl | rfl | rfl | rfl | rfl | rfl | rfl | rfl
  · refine (pr_4_0 sp s 0 0 sec n (s.length : Nat) c).trans ?_
    unfold pstep; rw [hl]
    rfl
  · refine (pr_4_1 sp s 0 0 sec n (s.length : Nat) c).trans ?_
    unfold pstep; rw [hl]
    rfl
  · refine (pr_4_2 sp s 0 0 sec n (s.length : Nat) c).trans ?_
    unfold pstep; rw [hl]
    rfl
  · refine (pr_4_3 sp s 0 0 sec n (s.length : Nat) c).trans ?_
    unfold pstep; rw [hl]
    rfl
  · refine (pr_4_4 sp s 0 0 sec n (s.length : Nat) c).trans ?_
    unfold pstep; rw [hl]
    rfl
  · refine (pr_4_5 sp s 0 0 sec n (s.length : Nat) c).trans ?_
    unfold pstep; rw [hl]
    rfl
  · refine (pr_4_6 sp s 0 0 sec n (s.length : Nat) c).trans ?_
    unfold pstep; rw [hl]
    rfl
  · refine (pr_4_7 sp s 0 0 sec n (s.length : Nat) c).trans ?_
    unfold pstep; rw [hl]
    rfl
  · refine (pr_4_8 sp s 0 0 sec n (s.length : Nat) c).trans ?_
    unfold pstep; rw [hl]
    rfl
  · refine (pr_4_9 sp s 0 0 sec n (s.length : Nat) c).trans ?_
    unfold pstep; rw [hl]
    rfl
  · refine (pr_4_10 sp s 0 0 sec n (s.length : Nat) c).trans ?_
    unfold pstep; rw [hl]
    rfl
  · refine (pr_4_11 sp s 0 0 sec n (s.length : Nat) c).trans ?_
    unfold pstep; rw [hl]
    rfl
  · refine (pr_4_12 sp s 0 0 sec n (s.length : Nat) c).trans ?_
    unfold pstep; rw [hl]
    rfl
  · refine (pr_4_13 sp s 0 0 sec n (s.length : Nat) c).trans ?_
    unfold pstep; rw [hl]
    rfl
  · refine (pr_4_14 sp s 0 0 sec n (s.length : Nat) c).trans ?_
    unfold pstep; rw [hl]
    rfl
theorem ps_5 (s : List UInt8) (sec n : Int) (c : Nat → Int) (hl : s.length = 16) : ∀ i, i < 16 → Rd sp 16 506 (paS s 0 0 (5 : Nat) sec n (s.length : Nat) (i : Nat) (tenB c)) = pstep s 5 i sec n c := by
  intro i hi
  have hi : i = 0 ∨ i = 1 ∨ i = 2 ∨ i = 3 ∨ i = 4 ∨ i = 5 ∨ i = 6 ∨ i = 7 ∨ i = 8 ∨ i = 9 ∨ i = 10 ∨ i = 11 ∨ i = 12 ∨ i = 13 ∨ i = 14 ∨ i = 15 := by omega
  rcases hi with rfl | rfl | rfl | rfl | rfl | rfl | rfl | rfl | rfl | rfl | rfl | rfl | rfl | rfl | rfl | rfl
  · refine (pr_5_0 sp s 0 0 sec n (s.length : Nat) c).trans ?_
    unfold pstep; rw [hl]
    rfl
  · refine (pr_5_1 sp s 0 0 sec n (s.length : Nat) c).trans ?_
    unfold pstep; rw [hl]
    rfl
  · refine (pr_5_2 sp s 0 0 sec n (s.length : Nat) c).trans ?_
    unfold pstep; rw [hl]
    rfl
  · refine (pr_5_3 sp s 0 0 sec n (s.length : Nat) c).trans ?_
    unfold pstep; rw [hl]
    rfl
  · refine (pr_5_4 sp s 0 0 sec n (s.length : Nat) c).trans ?_
    unfold pstep; rw [hl]
    rfl
  · refine (pr_5_5 sp s 0 0 sec n (s.length : Nat) c).trans ?_
    unfold pstep; rw [hl]
    rfl
  · refine (pr_5_6 sp s 0 0 sec n (s.length : Nat) c).trans ?_
    unfold pstep; rw [hl]
    rfl
  · refine (pr_5_7 sp s 0 0 sec n (s.length : Nat) c).trans ?_
    unfold pstep; rw [hl]
    rfl
  · refine (pr_5_8 sp s 0 0 sec n (s.length : Nat) c).trans ?_
    unfold pstep; rw [hl]
    rfl
  · refine (pr_5_9 sp s 0 0 sec n (s.length : Nat) c).trans ?_
    unfold pstep; rw [hl]
    rfl
  · refine (pr_5_10 sp s 0 0 sec n (s.length : Nat) c).trans ?_
    unfold pstep; rw [hl]
    rfl
  · refine (pr_5_11 sp s 0 0 sec n (s.length : Nat) c).trans ?_
    unfold pstep; rw [hl]
    rfl
  · refine (pr_5_12 sp s 0 0 sec n (s.length : Nat) c).trans ?_
    unfold pstep; rw [hl]
    rfl
  · refine (pr_5_13 sp s 0 0 sec n (s.length : Nat) c).trans ?_
    unfold pstep; rw [hl]
    rfl
  · refine (pr_5_14 sp s 0 0 sec n (s.length : Nat) c).trans ?_
    unfold pstep; rw [hl]
    rfl
  · refine (pr_5_15 sp s 0 0 sec n (s.length : Nat) c).trans ?_
    unfold pstep; rw [hl]
    rfl
theorem ps_6 (s : List UInt8) (sec n : Int) (c : Nat → Int) (hl : s.length = 17) : ∀ i, i < 17 → Rd sp 16 506 (paS s 0 0 (6 : Nat) sec n (s.length : Nat) (i : Nat) (tenB c)) = pstep s 6 i sec n c := by
  intro i hi
  have hi : i = 0 ∨ i = 1 ∨ i = 2 ∨ i = 3 ∨ i = 4 ∨ i = 5 ∨ i = 6 ∨ i = 7 ∨ i = 8 ∨ i = 9 ∨ i = 10 ∨ i = 11 ∨ i = 12 ∨ i = 13 ∨ i = 14 ∨ i = 15 ∨ i = 16 := by omega
  rcases hi with rfl | rfl | rfl | rfl | rfl | rfl | rfl | rfl | rfl | rfl | rfl | rfl | rfl | rfl | rfl | rfl | rfl
  · refine (pr_6_0 sp s 0 0 sec n (s.length : Nat) c).trans ?_
    unfold pstep; rw [hl]
    rfl
  · refine (pr_6_1 sp s 0 0 sec n (s.length : Nat) c).trans ?_
    unfold pstep; rw [hl]
    rfl
  · refine (pr_6_2 sp s 0 0 sec n (s.length : Nat) c).trans ?_
    unfold pstep; rw [hl]
    rfl
  · refine (pr_6_3 sp s 0 0 sec n (s.length : Nat) c).trans ?_
    unfold pstep; rw [hl]
    rfl
  · refine (pr_6_4 sp s 0 0 sec n (s.length : Nat) c).trans ?_
    unfold pstep; rw [hl]
    rfl
  · refine (pr_6_5 sp s 0 0 sec n (s.length : Nat) c).trans ?_
    unfold pstep; rw [hl]
    rfl
  · refine (pr_6_6 sp s 0 0 sec n (s.length : Nat) c).trans ?_
    unfold pstep; rw [hl]
    rfl
  · refine (pr_6_7 sp s 0 0 sec n (s.length : Nat) c).trans ?_
    unfold pstep; rw [hl]
    rfl
  · refine (pr_6_8 sp s 0 0 sec n (s.length : Nat) c).trans ?_
    unfold pstep; rw [hl]
    rfl
  · refine (pr_6_9 sp s 0 0 sec n (s.length : Nat) c).trans ?_
    unfold pstep; rw [hl]
    rfl
  · refine (pr_6_10 sp s 0 0 sec n (s.length : Nat) c).trans ?_
    unfold pstep; rw [hl]
    rfl
  · refine (pr_6_11 sp s 0 0 sec n (s.length : Nat) c).trans ?_
    unfold pstep; rw [hl]
    rfl
  · refine (pr_6_12 sp s 0 0 sec n (s.length : Nat) c).trans ?_
    unfold pstep; rw [hl]
    rfl
  · refine (pr_6_13 sp s 0 0 sec n (s.length : Nat) c).trans ?_
    unfold pstep; rw [hl]
    rfl
  · refine (pr_6_14 sp s 0 0 sec n (s.length : Nat) c).trans ?_
    unfold pstep; rw [hl]
    rfl
  · refine (pr_6_15 sp s 0 0 sec n (s.length : Nat) c).trans ?_
    unfold pstep; rw [hl]
    rfl
  · refine (pr_6_16 sp s 0 0 sec n (s.length : Nat) c).trans ?_
    unfold pstep; rw [hl]
    rfl
theorem ps_7 (s : List UInt8) (sec n : Int) (c : Nat → Int) (hl : s.length = 18) : ∀ i, i < 18 → Rd sp 16 506 (paS s 0 0 (7 : Nat) sec n (s.length : Nat) (i : Nat) (tenB c)) = pstep s 7 i sec n c := by
  intro i hi
  have hi : i = 0 ∨ i = 1 ∨ i = 2 ∨ i = 3 ∨ i = 4 ∨ i = 5 ∨ i = 6 ∨ i = 7 ∨ i = 8 ∨ i = 9 ∨ i = 10 ∨ i = 11 ∨ i = 12 ∨ i = 13 ∨ i = 14 ∨ i = 15 ∨ i = 16 ∨ i = 17 := by omega
  rcases hi with rfl | rfl | rfl | rfl | rfl | rfl | rfl | rfl | rfl | rfl | rfl | rfl | rfl | rfl | rfl | rfl | rfl | rfl
  · refine (pr_7_0 sp s 0 0 sec n (s.length : Nat) c).trans ?_
    unfold pstep; rw [hl]
    rfl
  · refine (pr_7_1 sp s 0 0 sec n (s.length : Nat) c).trans ?_
    unfold pstep; rw [hl]
    rfl
  · refine (pr_7_2 sp s 0 0 sec n (s.length : Nat) c).trans ?_
    unfold pstep; rw [hl]
    rfl
  · refine (pr_7_3 sp s 0 0 sec n (s.length : Nat) c).trans ?_
    unfold pstep; rw [hl]
    rfl
  · refine (pr_7_4 sp s 0 0 sec n (s.length : Nat) c).trans ?_
    unfold pstep; rw [hl]
    rfl
  · refine (pr_7_5 sp s 0 0 sec n (s.length : Nat) c).trans ?_
    unfold pstep; rw [hl]
    rfl
  · refine (pr_7_6 sp s 0 0 sec n (s.length : Nat) c).trans ?_
    unfold pstep; rw [hl]
    rfl
  · refine (pr_7_7 sp s 0 0 sec n (s.length : Nat) c).trans ?_
    unfold pstep; rw [hl]
    rfl
  · refine (pr_7_8 sp s 0 0 sec n (s.length : Nat) c).trans ?_
    unfold pstep; rw [hl]
    rfl
  · refine (pr_7_9 sp s 0 0 sec n (s.length : Nat) c).trans ?_
    unfold pstep; rw [hl]
    rfl
  · refine (pr_7_10 sp s 0 0 sec n (s.length : Nat) c).trans ?_
    unfold pstep; rw [hl]
    rfl
  · refine (pr_7_11 sp s 0 0 sec n (s.length : Nat) c).trans ?_
    unfold pstep; rw [hl]
    rfl
  · refine (pr_7_12 sp s 0 0 sec n (s.length : Nat) c).trans ?_
    unfold pstep; rw [hl]
    rfl
  · refine (pr_7_13 sp s 0 0 sec n (s.length : Nat) c).trans ?_
    unfold pstep; rw [hl]
    rfl
  · refine (pr_7_14 sp s 0 0 sec n (s.length : Nat) c).trans ?_
    unfold pstep; rw [hl]
    rfl
  · refine (pr_7_15 sp s 0 0 sec n (s.length : Nat) c).trans ?_
    unfold pstep; rw [hl]
    rfl
  · refine (pr_7_16 sp s 0 0 sec n (s.length : Nat) c).trans ?_
    unfold pstep; rw [hl]
    rfl
  · refine (pr_7_17 sp s 0 0 sec n (s.length : Nat) c).trans ?_
    unfold pstep; rw [hl]
    rfl
theorem ps_8 (s : List UInt8) (sec n : Int) (c : Nat → Int) (hl : s.length = 19) : ∀ i, i < 19 → Rd sp 16 506 (paS s 0 0 (8 : Nat) sec n (s.length : Nat) (i : Nat) (tenB c)) = pstep s 8 i sec n c := by
  intro i hi
  have hi : i = 0 ∨ i = 1 ∨ i = 2 ∨ i = 3 ∨ i = 4 ∨ i = 5 ∨ i = 6 ∨ i = 7 ∨ i = 8 ∨ i = 9 ∨ i = 10 ∨ i = 11 ∨ i = 12 ∨ i = 13 ∨ i = 14 ∨ i = 15 ∨ i = 16 ∨ i = 17 ∨ i = 18 := by omega
  rcases hi with rfl | rfl | rfl | rfl | rfl | rfl | rfl | rfl | rfl | rfl | rfl | rfl | rfl | rfl | rfl | rfl | rfl | rfl | rfl
  · refine (pr_8_0 sp s 0 0 sec n (s.length : Nat) c).trans ?_
    unfold pstep; rw [hl]
    rfl
  · refine (pr_8_1 sp s 0 0 sec n (s.length : Nat) c).trans ?_
    unfold pstep; rw [hl]
    rfl
  · refine (pr_8_2 sp s 0 0 sec n (s.length : Nat) c).trans ?_
    unfold pstep; rw [hl]
    rfl
  · refine (pr_8_3 sp s 0 0 sec n (s.length : Nat) c).trans ?_
    unfold pstep; rw [hl]
    rfl
  · refine (pr_8_4 sp s 0 0 sec n (s.length : Nat) c).trans ?_
    unfold pstep; rw [hl]
    rfl
  · refine (pr_8_5 sp s 0 0 sec n (s.length : Nat) c).trans ?_
    unfold pstep; rw [hl]
    rfl
  · refine (pr_8_6 sp s 0 0 sec n (s.length : Nat) c).trans ?_
    unfold pstep; rw [hl]
    rfl
  · refine (pr_8_7 sp s 0 0 sec n (s.length : Nat) c).trans ?_
    unfold pstep; rw [hl]
    rfl
  · refine (pr_8_8 sp s 0 0 sec n (s.length : Nat) c).trans ?_
    unfold pstep; rw [hl]
    rfl
  · refine (pr_8_9 sp s 0 0 sec n (s.length : Nat) c).trans ?_
    unfold pstep; rw [hl]
    rfl
  · refine (pr_8_10 sp s 0 0 sec n (s.length : Nat) c).trans ?_
    unfold pstep; rw [hl]
    rfl
  · refine (pr_8_11 sp s 0 0 sec n (s.length : Nat) c).trans ?_
    unfold pstep; rw [hl]
    rfl
  · refine (pr_8_12 sp s 0 0 sec n (s.length : Nat) c).trans ?_
    unfold pstep; rw [hl]
    rfl
  · refine (pr_8_13 sp s 0 0 sec n (s.length : Nat) c).trans ?_
    unfold pstep; rw [hl]
    rfl
  · refine (pr_8_14 sp s 0 0 sec n (s.length : Nat) c).trans ?_
    unfold pstep; rw [hl]
    rfl
  · refine (pr_8_15 sp s 0 0 sec n (s.length : Nat) c).trans ?_
    unfold pstep; rw [hl]
    rfl
  · refine (pr_8_16 sp s 0 0 sec n (s.length : Nat) c).trans ?_
    unfold pstep; rw [hl]
    rfl
  · refine (pr_8_17 sp s 0 0 sec n (s.length : Nat) c).trans ?_
    unfold pstep; rw [hl]
    rfl
  · refine (pr_8_18 sp s 0 0 sec n (s.length : Nat) c).trans ?_
    unfold pstep; rw [hl]
    rfl
theorem ps_9 (s : List UInt8) (sec n : Int) (c : Nat → Int) (hl : s.length = 20) : ∀ i, i < 20 → Rd sp 16 506 (paS s 0 0 (9 : Nat) sec n (s.length : Nat) (i : Nat) (tenB c)) = pstep s 9 i sec n c := by
  intro i hi
  have hi : i = 0 ∨ i = 1 ∨ i = 2 ∨ i = 3 ∨ i = 4 ∨ i = 5 ∨ i = 6 ∨ i = 7 ∨ i = 8 ∨ i = 9 ∨ i = 10 ∨ i = 11 ∨ i = 12 ∨ i = 13 ∨ i = 14 ∨ i = 15 ∨ i = 16 ∨ i = 17 ∨ i = 18 ∨ i = 19 := by omega
  rcases hi with rfl | rfl | rfl | rfl | rfl | rfl | rfl | rfl | rfl | rfl | rfl | rfl | rfl | rfl | rfl | rfl | rfl | rfl | rfl | rfl
  · refine (pr_9_0 sp s 0 0 sec n (s.length : Nat) c).trans ?_
    unfold pstep; rw [hl]
    rfl
  · refine (pr_9_1 sp s 0 0 sec n (s.length : Nat) c).trans ?_
    unfold pstep; rw [hl]
    rfl
  · refine (pr_9_2 sp s 0 0 sec n (s.length : Nat) c).trans ?_
    unfold pstep; rw [hl]
    rfl
  · refine (pr_9_3 sp s 0 0 sec n (s.length : Nat) c).trans ?_
    unfold pstep; rw [hl]
    rfl
  · refine (pr_9_4 sp s 0 0 sec n (s.length : Nat) c).trans ?_
    unfold pstep; rw [hl]
    rfl
  · refine (pr_9_5 sp s 0 0 sec n (s.length : Nat) c).trans ?_
    unfold pstep; rw [hl]
    rfl
  · refine (pr_9_6 sp s 0 0 sec n (s.length : Nat) c).trans ?_
    unfold pstep; rw [hl]
    rfl
  · refine (pr_9_7 sp s 0 0 sec n (s.length : Nat) c).trans ?_
    unfold pstep; rw [hl]
    rfl
  · refine (pr_9_8 sp s 0 0 sec n (s.length : Nat) c).trans ?_
    unfold pstep; rw [hl]
    rfl
  · refine (pr_9_9 sp s 0 0 sec n (s.length : Nat) c).trans ?_
    unfold pstep; rw [hl]
    rfl
  · refine (pr_9_10 sp s 0 0 sec n (s.length : Nat) c).trans ?_
    unfold pstep; rw [hl]
    rfl
  · refine (pr_9_11 sp s 0 0 sec n (s.length : Nat) c).trans ?_
    unfold pstep; rw [hl]
    rfl
  · refine (pr_9_12 sp s 0 0 sec n (s.length : Nat) c).trans ?_
    unfold pstep; rw [hl]
    rfl
  · refine (pr_9_13 sp s 0 0 sec n (s.length : Nat) c).trans ?_
    unfold pstep; rw [hl]
    rfl
  · refine (pr_9_14 sp s 0 0 sec n (s.length : Nat) c).trans ?_
    unfold pstep; rw [hl]
    rfl
  · refine (pr_9_15 sp s 0 0 sec n (s.length : Nat) c).trans ?_
    unfold pstep; rw [hl]
    rfl
  · refine (pr_9_16 sp s 0 0 sec n (s.length : Nat) c).trans ?_
    unfold pstep; rw [hl]
    rfl
  · refine (pr_9_17 sp s 0 0 sec n (s.length : Nat) c).trans ?_
    unfold pstep; rw [hl]
    rfl
  · refine (pr_9_18 sp s 0 0 sec n (s.length : Nat) c).trans ?_
    unfold pstep; rw [hl]
    rfl
  · refine (pr_9_19 sp s 0 0 sec n (s.length : Nat) c).trans ?_
    unfold pstep; rw [hl]
    rfl
theorem ps_10 (s : List UInt8) (sec n : Int) (c : Nat → Int) (hl : s.length = 21) : ∀ i, i < 21 → Rd sp 16 506 (paS s 0 0 (10 : Nat) sec n (s.length : Nat) (i : Nat) (tenB c)) = pstep s 10 i sec n c := by
  intro i hi
  have hi : i = 0 ∨ i = 1 ∨ i = 2 ∨ i = 3 ∨ i = 4 ∨ i = 5 ∨ i = 6 ∨ i = 7 ∨ i = 8 ∨ i = 9 ∨ i = 10 ∨ i = 11 ∨ i = 12 ∨ i = 13 ∨ i = 14 ∨ i = 15 ∨ i = 16 ∨ i = 17 ∨ i = 18 ∨ i = 19 ∨ i = 20 := by omega
  rcases hi with rfl | rfl | rfl | rfl | rfl | rfl | rfl | rfl | rfl | rfl | rfl | rfl | rfl | rfl | rfl | rfl | rfl | rfl | rfl | rfl | rfl
  · refine (pr_10_0 sp s 0 0 sec n (s.length : Nat) c).trans ?_
    unfold pstep; rw [hl]
    rfl
  · refine (pr_10_1 sp s 0 0 sec n (s.length : Nat) c).trans ?_
    unfold pstep; rw [hl]
    rfl
  · refine (pr_10_2 sp s 0 0 sec n (s.length : Nat) c).trans ?_
    unfold pstep; rw [hl]
    rfl
  · refine (pr_10_3 sp s 0 0 sec n (s.length : Nat) c).trans ?_
    unfold pstep; rw [hl]
    rfl
  · refine (pr_10_4 sp s 0 0 sec n (s.length : Nat) c).trans ?_
    unfold pstep; rw [hl]
    rfl
  · refine (pr_10_5 sp s 0 0 sec n (s.length : Nat) c).trans ?_
    unfold pstep; rw [hl]
    rfl
  · refine (pr_10_6 sp s 0 0 sec n (s.length : Nat) c).trans ?_
    unfold pstep; rw [hl]
    rfl
  · refine (pr_10_7 sp s 0 0 sec n (s.length : Nat) c).trans ?_
    unfold pstep; rw [hl]
    rfl
  · refine (pr_10_8 sp s 0 0 sec n (s.length : Nat) c).trans ?_
    unfold pstep; rw [hl]
    rfl
  · refine (pr_10_9 sp s 0 0 sec n (s.length : Nat) c).trans ?_
    unfold pstep; rw [hl]
    rfl
  · refine (pr_10_10 sp s 0 0 sec n (s.length : Nat) c).trans ?_
    unfold pstep; rw [hl]
    rfl
  · refine (pr_10_11 sp s 0 0 sec n (s.length : Nat) c).trans ?_
    unfold pstep; rw [hl]
    rfl
  · refine (pr_10_12 sp s 0 0 sec n (s.length : Nat) c).trans ?_
    unfold pstep; rw [hl]
    rfl
  · refine (pr_10_13 sp s 0 0 sec n (s.length : Nat) c).trans ?_
    unfold pstep; rw [hl]
    rfl
  · refine (pr_10_14 sp s 0 0 sec n (s.length : Nat) c).trans ?_
    unfold pstep; rw [hl]
    rfl
  · refine (pr_10_15 sp s 0 0 sec n (s.length : Nat) c).trans ?_
    unfold pstep; rw [hl]
    rfl
  · refine (pr_10_16 sp s 0 0 sec n (s.length : Nat) c).trans ?_
    unfold pstep; rw [hl]
    rfl
  · refine (pr_10_17 sp s 0 0 sec n (s.length : Nat) c).trans ?_
    unfold pstep; rw [hl]
    rfl
  · refine (pr_10_18 sp s 0 0 sec n (s.length : Nat) c).trans ?_
    unfold pstep; rw [hl]
    rfl
  · refine (pr_10_19 sp s 0 0 sec n (s.length : Nat) c).trans ?_
    unfold pstep; rw [hl]
    rfl
  · refine (pr_10_20 sp s 0 0 sec n (s.length : Nat) c).trans ?_
    unfold pstep; rw [hl]
    rfl
end Go.Proofs.YthnleapnhkkeoaaDoor
