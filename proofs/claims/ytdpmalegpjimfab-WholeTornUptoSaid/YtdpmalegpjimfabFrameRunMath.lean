/- Plain law: of frames one behind the other, and something that is no frame behind them, Scan tells just the frames, and where they end. -/
import Derived.Test.YtdpmalegpjimfabFrameTornMath
namespace Go.Proofs.Ytdpmalegpjimfab
open WireMath (wideL numS beN byteAt)
open FrameMath (head crcP laid)

/-- Next behind some bytes is Next of what stands behind them -/
theorem next_shift (X S : List UInt8) : nextF (X ++ S) (X.length : Nat) = ⟨(nextF S 0).kind, (nextF S 0).place, (nextF S 0).payload, (nextF S 0).next + X.length⟩ := by
  have hd : ∀ k, (X ++ S).drop (X.length + k) = S.drop k := fun k => by rw [← List.drop_drop, List.drop_left]
  have hd0 : (X ++ S).drop X.length = S := List.drop_left
  have hl : (X ++ S).length = X.length + S.length := List.length_append
  by_cases h1 : S.length = 0
  · have e1 : nextF (X ++ S) (X.length : Nat) = noNx 0 (X.length : Nat) := by unfold nextF; rw [if_pos (by omega)]
    have e2 : nextF S 0 = noNx 0 0 := by unfold nextF; rw [if_pos (by omega)]
    rw [e1, e2]; simp [noNx]
  · by_cases h2 : S.length < 17
    · have e1 : nextF (X ++ S) (X.length : Nat) = noNx 2 (X.length : Nat) := by unfold nextF; rw [if_neg (by omega), if_pos (by omega)]
      have e2 : nextF S 0 = noNx 2 0 := by unfold nextF; rw [if_neg (by omega), if_pos (by omega)]
      rw [e1, e2]; simp [noNx]
    · have m1 := next_mid (X ++ S) X.length (by omega) (by omega)
      have m2 := next_mid S 0 (by omega) (by omega)
      simp only [hd, hd0, Nat.zero_add, List.drop_zero] at m1 m2
      rw [m1, show ((0 : Nat) : Int) = (0 : Int) from rfl] at *
      rw [show nextF S 0 = _ from m2]
      generalize beN ((S.drop 1).take 4) = n
      by_cases h3 : n < 1 ∨ 65535 < n ∨ S.length < 18 + n
      · rw [if_pos (by omega), if_pos h3]; simp [noNx]
      · rw [if_neg (by omega), if_neg h3]
        split
        · simp only [Nx.mk.injEq, true_and]; omega
        · simp [noNx]
/-- frames one behind the other -/
def runL (ps : List (Nat × List UInt8)) : List UInt8 := ps.flatMap fun p => laid p.1 p.2
def okP (p : Nat × List UInt8) : Prop := p.1 ≤ 18446744073709551615 ∧ 1 ≤ p.2.length ∧ p.2.length ≤ 65535
theorem runL_length (ps : List (Nat × List UInt8)) : 18 * ps.length ≤ (runL ps).length := by
  induction ps with
  | nil => simp [runL]
  | cons p ps ih =>
    have := FrameMath.laid_length p.1 p.2
    simp only [runL, List.flatMap_cons, List.length_append, List.length_cons] at ih ⊢
    omega
theorem scanTo_run : ∀ (ps : List (Nat × List UInt8)) (X T : List UInt8) (f : Nat), (∀ p ∈ ps, okP p) → (nextF T 0).kind ≠ 1 → ps.length < f →
    scanTo f (X ++ (runL ps ++ T)) (X.length : Nat) = (ps, ((X.length + (runL ps).length : Nat) : Int)) := by
  intro ps
  induction ps with
  | nil =>
    intro X T f _ hT hf
    cases f with
    | zero => simp at hf
    | succ f =>
      have e := next_shift X T
      simp only [runL, List.flatMap_nil, List.nil_append, List.length_nil, Nat.add_zero]
      rw [scanTo, e, if_neg hT]
  | cons p ps ih =>
    intro X T f hp hT hf
    cases f with
    | zero => simp at hf
    | succ f =>
      obtain ⟨o1, o2, o3⟩ := hp p (List.mem_cons_self ..)
      have hr : runL (p :: ps) = laid p.1 p.2 ++ runL ps := by simp [runL]
      have e := next_shift X (runL (p :: ps) ++ T)
      rw [hr, List.append_assoc] at e ⊢
      rw [next_laid p.1 p.2 _ o1 o2 o3] at e
      have hlen := FrameMath.laid_length p.1 p.2
      have hx : ((p.2.length : Int) + 18 + (X.length : Nat)) = ((X ++ laid p.1 p.2).length : Nat) := by rw [List.length_append, hlen]; omega
      have ih' := ih (X ++ laid p.1 p.2) T f (fun q hq => hp q (List.mem_cons_of_mem _ hq)) hT (by simp at hf; omega)
      rw [List.append_assoc] at ih'
      rw [scanTo, e, if_pos rfl]
      simp only [Nx.fr]
      rw [hx, ih']
      simp only [List.length_append, Prod.mk.injEq, true_and]
      congr 1
      omega
theorem scan_run (ps : List (Nat × List UInt8)) (T : List UInt8) (hp : ∀ p ∈ ps, okP p) (hT : (nextF T 0).kind ≠ 1) : scanF (runL ps ++ T) = (ps, ((runL ps).length : Int)) := by
  have h := scanTo_run ps [] T ((runL ps ++ T).length + 1) hp hT (by have := runL_length ps; rw [List.length_append]; omega)
  unfold scanF
  simpa using h
end Go.Proofs.Ytdpmalegpjimfab
