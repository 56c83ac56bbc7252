/- Values, in plain words. It bears no condition. -/
import Derived.Test.YtolpgbgmldpneaaDrH
namespace Go.Proofs.Ytolpgbgmldpneaa
open Go Go.Im
set_option linter.unusedVariables false
set_option linter.unusedSimpArgs false
set_option maxRecDepth 20000

inductive Nd where
  | mk (t : Int) (b : List UInt8) (ks : List Nd)
namespace Nd
def tag : Nd → Int | mk t _ _ => t
def bytes : Nd → List UInt8 | mk _ b _ => b
def kids : Nd → List Nd | mk _ _ ks => ks
end Nd
mutual
def okNd : IV → Bool
  | .agg [.int .i64 _, .fsl _ _ z1 bs, .fsl _ _ z2 ks] => (decide (z1 = 1 ∨ bs.length = 0) && okB bs) && (decide (z2 = 3 ∨ ks.length = 0) && okNds ks)
  | _ => false
def okNds : List IV → Bool
  | [] => true
  | x :: xs => okNd x && okNds xs
end
mutual
def ndOf : IV → Nd
  | .agg [.int .i64 t, .fsl _ _ _ bs, .fsl _ _ _ ks] => .mk t (toBytes bs) (ndsOf ks)
  | _ => .mk 0 [] []
def ndsOf : List IV → List Nd
  | [] => []
  | x :: xs => ndOf x :: ndsOf xs
end
mutual
/-- How much a value holds. -/
def Nd.sz : Nd → Nat
  | .mk _ b ks => b.length + 8 + szs ks
def szs : List Nd → Nat
  | [] => 0
  | k :: ks => k.sz + szs ks
end
mutual
/-- How deep a value is. -/
def Nd.dp : Nd → Nat
  | .mk _ _ ks => 1 + dps ks
def dps : List Nd → Nat
  | [] => 0
  | k :: ks => max k.dp (dps ks)
end
mutual
/-- A value's bytes. -/
def Nd.wr : Nd → List UInt8
  | .mk t b ks => u8of t :: (lenB (b ++ wrs ks).length ++ (b ++ wrs ks))
def wrs : List Nd → List UInt8
  | [] => []
  | k :: ks => k.wr ++ wrs ks
end
theorem lenB_len (n : Nat) : (lenB n).length ≤ 5 := by
  unfold lenB
  split
  · simp
  · simp only [List.length_cons, be_len]
    have := (kOf_le n).2
    omega
mutual
theorem wr_len : ∀ n : Nd, n.wr.length ≤ n.sz
  | .mk t b ks => by
    have h1 := lenB_len (b ++ wrs ks).length
    have h2 := wrs_len ks
    unfold Nd.wr Nd.sz
    simp only [List.length_cons, List.length_append] at h1 ⊢
    omega
theorem wrs_len : ∀ ks : List Nd, (wrs ks).length ≤ szs ks
  | [] => Nat.le_refl _
  | k :: ks => by
    have h1 := wr_len k
    have h2 := wrs_len ks
    unfold wrs szs
    rw [List.length_append]
    omega
end
theorem ndsOf_map : ∀ ks : List IV, ndsOf ks = ks.map ndOf
  | [] => rfl
  | x :: xs => by unfold ndsOf; rw [ndsOf_map xs]; rfl
theorem okNds_all : ∀ ks : List IV, okNds ks = ks.all okNd
  | [] => rfl
  | x :: xs => by unfold okNds; rw [okNds_all xs]; rfl
theorem wrs_flat : ∀ ks : List Nd, wrs ks = ks.flatMap Nd.wr
  | [] => rfl
  | x :: xs => by unfold wrs; rw [wrs_flat xs]; rfl
theorem okNd_iff {x : IV} (h : okNd x = true) : ∃ n1 c1 z1 n2 c2 z2 ks, x = .agg [.int .i64 (ndOf x).tag, .fsl n1 c1 z1 (u8s (ndOf x).bytes), .fsl n2 c2 z2 ks] ∧ (ndOf x).kids = ks.map ndOf ∧ ks.all okNd = true ∧ (z1 = 1 ∨ (ndOf x).bytes = []) ∧ (z2 = 3 ∨ ks = []) := by
  unfold okNd at h
  split at h
  · rename_i t n1 c1 z1 bs n2 c2 z2 ks
    simp only [Bool.and_eq_true, decide_eq_true_eq] at h
    obtain ⟨⟨h1, h2⟩, h3, h4⟩ := h
    obtain ⟨b, rfl, h5⟩ := okz h1 h2
    refine ⟨n1, c1, z1, n2, c2, z2, ks, ?_, ?_, ?_, ?_, ?_⟩
    · unfold ndOf; simp only [Nd.tag, Nd.bytes, toBytes_u8s]
    · unfold ndOf; simp only [Nd.kids, ndsOf_map]
    · rw [← okNds_all]; exact h4
    · unfold ndOf; simp only [Nd.bytes, toBytes_u8s]; exact h5
    · exact h3.imp id List.length_eq_zero_iff.1
  · cases h
theorem sz_mk (n : Nd) : n.sz = n.bytes.length + 8 + szs n.kids := by cases n; unfold Nd.sz; rfl
theorem dp_mk (n : Nd) : n.dp = 1 + dps n.kids := by cases n; unfold Nd.dp; rfl
theorem wr_mk (n : Nd) : n.wr = u8of n.tag :: (lenB (n.bytes ++ wrs n.kids).length ++ (n.bytes ++ wrs n.kids)) := by cases n; unfold Nd.wr; rfl
theorem szs_mem : ∀ {ks : List Nd} {k : Nd}, k ∈ ks → k.sz ≤ szs ks
  | x :: xs, k, h => by
    unfold szs
    rcases List.mem_cons.1 h with rfl | h
    · omega
    · have := szs_mem h; omega
theorem dps_mem : ∀ {ks : List Nd} {k : Nd}, k ∈ ks → k.dp ≤ dps ks
  | x :: xs, k, h => by
    unfold dps
    rcases List.mem_cons.1 h with rfl | h
    · omega
    · have := dps_mem h; omega
theorem szs_app : ∀ a b : List Nd, szs (a ++ b) = szs a + szs b
  | [], b => by simp [szs]
  | x :: a, b => by
    show x.sz + szs (a ++ b) = (x.sz + szs a) + szs b
    rw [szs_app a b]; omega
theorem wrs_app (a b : List Nd) : wrs (a ++ b) = wrs a ++ wrs b := by simp [wrs_flat]
/-- A value that is not too great. -/
def cN (x : IV) : Bool := okNd x && decide ((ndOf x).sz ≤ 100000000)
def cD (d : Nat) (x : IV) : Bool := cN x && decide ((ndOf x).dp ≤ d)
theorem cN_kid {x k : IV} {ks : List IV} (h : cN x = true) (hk : (ndOf x).kids = ks.map ndOf) (ho : ks.all okNd = true) (hm : k ∈ ks) : cN k = true := by
  unfold cN at h ⊢
  simp only [Bool.and_eq_true, decide_eq_true_eq] at h ⊢
  refine ⟨List.all_eq_true.1 ho k hm, ?_⟩
  have h1 := sz_mk (ndOf x)
  have h2 : (ndOf k).sz ≤ szs (ndOf x).kids := szs_mem (by rw [hk]; exact List.mem_map_of_mem hm)
  omega
theorem cD_kid {d : Nat} {x k : IV} {ks : List IV} (h : cD (d + 1) x = true) (hk : (ndOf x).kids = ks.map ndOf) (ho : ks.all okNd = true) (hm : k ∈ ks) : cD d k = true := by
  unfold cD at h ⊢
  simp only [Bool.and_eq_true, decide_eq_true_eq] at h ⊢
  refine ⟨cN_kid h.1 hk ho hm, ?_⟩
  have h1 := dp_mk (ndOf x)
  have h2 : (ndOf k).dp ≤ dps (ndOf x).kids := dps_mem (by rw [hk]; exact List.mem_map_of_mem hm)
  omega
theorem cD_self {x : IV} (h : cN x = true) : cD (ndOf x).dp x = true := by unfold cD; rw [h, decide_eq_true (Nat.le_refl _)]; rfl
theorem dp_pos (n : Nd) : 1 ≤ n.dp := by rw [dp_mk]; omega
end Go.Proofs.Ytolpgbgmldpneaa
