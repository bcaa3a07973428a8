/- Plain laws for WholeTorn: of frames one behind the other of which a beginning is left, with noughts behind it, Scan tells those that are whole. -/
import Derived.Test.YtdpmalegpjimfabFrameRunMath
namespace Go.Proofs.Ytdpmalegpjimfab
open FrameMath (laid)

theorem runL_app (a b : List (Nat × List UInt8)) : runL (a ++ b) = runL a ++ runL b := by simp [runL]
theorem noughts_none (m : Nat) : (nextF (List.replicate m 0) 0).kind ≠ 1 := by
  have := torn_none 0 [0] (by decide) (by decide) 0 m (by decide)
  simpa using this
theorem scan_cut (ps : List (Nat × List UInt8)) (hp : ∀ p ∈ ps, okP p) (left m k : Nat) (hk : k ≤ ps.length) (h1 : (runL (ps.take k)).length ≤ left) (h2 : k < ps.length → left < (runL (ps.take (k + 1))).length) :
    scanF ((runL ps).take left ++ List.replicate m 0) = (ps.take k, ((runL (ps.take k)).length : Int)) := by
  have hpk : ∀ p ∈ ps.take k, okP p := fun p h => hp p (List.mem_of_mem_take h)
  by_cases hlt : k < ps.length
  · have h3 := h2 hlt
    have e : ps = ps.take k ++ (ps[k] :: ps.drop (k + 1)) := by rw [← List.drop_eq_getElem_cons hlt, List.take_append_drop]
    have e1 : runL ps = runL (ps.take k) ++ (laid ps[k].1 ps[k].2 ++ runL (ps.drop (k + 1))) := by
      have e9 : runL (ps[k] :: ps.drop (k + 1)) = laid ps[k].1 ps[k].2 ++ runL (ps.drop (k + 1)) := by simp only [runL, List.flatMap_cons]
      rw [← e9, ← runL_app, ← e]
    obtain ⟨o1, o2, o3⟩ := hp ps[k] (List.getElem_mem hlt)
    have hlen := FrameMath.laid_length ps[k].1 ps[k].2
    have e3 : (runL (ps.take (k + 1))).length = (runL (ps.take k)).length + (ps[k].2.length + 18) := by
      rw [List.take_succ_eq_append_getElem hlt, runL_app, List.length_append]
      simp only [runL, List.flatMap_cons, List.flatMap_nil, List.append_nil]
      rw [hlen]
    have e2 : (runL ps).take left ++ List.replicate m 0 = runL (ps.take k) ++ ((laid ps[k].1 ps[k].2).take (left - (runL (ps.take k)).length) ++ List.replicate m 0) := by
      rw [e1, List.take_append, List.take_of_length_le h1, List.take_append_of_le_length (by omega), List.append_assoc]
    rw [e2]
    exact scan_run (ps.take k) _ hpk (torn_none _ _ o2 o3 _ m (by omega))
  · have e0 : ps.take k = ps := List.take_of_length_le (by omega)
    rw [e0] at h1 ⊢
    rw [List.take_of_length_le h1]
    exact scan_run ps _ hp (noughts_none m)
/-- the payload that is framed -/
def sT (q : List UInt8) : List UInt8 := if q.length = 0 then [0] else q.take 65535
def pcsT (qs : List (List UInt8)) : List (Nat × List UInt8) := qs.mapIdx fun i q => (i, sT q)
theorem sT_ok (q : List UInt8) : 1 ≤ (sT q).length ∧ (sT q).length ≤ 65535 := by
  unfold sT
  split
  · simp
  · rw [List.length_take]; omega
theorem pcsT_length (qs : List (List UInt8)) : (pcsT qs).length = qs.length := by simp [pcsT]
theorem pcsT_take (qs : List (List UInt8)) (k : Nat) : (pcsT qs).take k = pcsT (qs.take k) := by
  unfold pcsT
  apply List.ext_getElem?
  intro i
  rw [List.getElem?_take, List.getElem?_mapIdx, List.getElem?_mapIdx, List.getElem?_take]
  split <;> rfl
theorem pcsT_get (qs : List (List UInt8)) (i : Nat) (q : List UInt8) (h : qs[i]? = some q) : (pcsT qs)[i]? = some (i, sT q) := by
  unfold pcsT
  rw [List.getElem?_mapIdx, h]; rfl
theorem pcsT_snoc (qs : List (List UInt8)) (j : Nat) (q : List UInt8) (h : qs[j]? = some q) : runL (pcsT (qs.take (j + 1))) = runL (pcsT (qs.take j)) ++ laid j (sT q) := by
  have hj := (List.getElem?_eq_some_iff.1 h).1
  have h1 := pcsT_get qs j q h
  have hl : j < (pcsT qs).length := by rw [pcsT_length]; exact hj
  rw [← pcsT_take, ← pcsT_take, List.take_succ_eq_append_getElem hl, runL_app]
  rw [List.getElem?_eq_getElem hl] at h1
  rw [Option.some.inj h1]
  simp [runL]
theorem pcsT_ok (qs : List (List UInt8)) (hl : qs.length ≤ 18446744073709551616) : ∀ p ∈ pcsT qs, okP p := by
  intro p hp
  obtain ⟨i, hi, rfl⟩ := List.getElem_of_mem hp
  have h1 : i < qs.length := by rwa [pcsT_length] at hi
  have h2 := pcsT_get qs i qs[i] (List.getElem?_eq_getElem h1)
  rw [List.getElem?_eq_getElem hi] at h2
  rw [Option.some.inj h2]
  exact ⟨by show i ≤ _; omega, sT_ok _⟩
def bulkL (qs : List (List UInt8)) : Nat := (qs.map fun q => q.length + 1).sum
theorem bulkL_len (l : List (List UInt8)) : l.length ≤ bulkL l := by
  induction l with
  | nil => simp
  | cons x l ih => simp only [bulkL, List.map_cons, List.sum_cons, List.length_cons] at ih ⊢; omega
theorem bulkL_take (l : List (List UInt8)) (i : Nat) : bulkL (l.take i) ≤ bulkL l := by
  have h := congrArg bulkL (List.take_append_drop i l)
  simp only [bulkL, List.map_append, List.sum_append] at h ⊢
  omega
theorem runT_le (qs : List (List UInt8)) (j : Nat) : (runL (pcsT (qs.take j))).length ≤ 20 * bulkL (qs.take j) := by
  induction j with
  | zero => simp [pcsT, runL]
  | succ j ih =>
    by_cases hj : j < qs.length
    · have h : qs[j]? = some qs[j] := List.getElem?_eq_getElem hj
      rw [pcsT_snoc qs j _ h, List.length_append, FrameMath.laid_length]
      have e : bulkL (qs.take (j + 1)) = bulkL (qs.take j) + (qs[j].length + 1) := by
        unfold bulkL
        rw [List.take_succ_eq_append_getElem hj, List.map_append, List.sum_append]
        simp
      have : (sT qs[j]).length ≤ qs[j].length + 1 := by
        unfold sT
        split
        · simp
        · rw [List.length_take]; omega
      omega
    · rw [List.take_of_length_le (by omega)]
      rw [List.take_of_length_le (by omega)] at ih
      exact ih
end Go.Proofs.Ytdpmalegpjimfab
