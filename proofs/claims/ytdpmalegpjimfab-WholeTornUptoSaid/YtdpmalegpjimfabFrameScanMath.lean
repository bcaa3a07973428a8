/- What Scan tells, in plain words. -/
import Derived.Test.YtdpmalegpjimfabFrameMath
import Derived.Test.YtdpmalegpjimfabFrameList
namespace Go.Proofs.Ytdpmalegpjimfab
open Go.RowKit

def Nx.fr (x : Nx) : Nat × List UInt8 := (x.place, x.payload)
/-- the frames from a place on, and where they end -/
def scanTo : Nat → List UInt8 → Int → List (Nat × List UInt8) × Int
  | 0, _, at_ => ([], at_)
  | f + 1, P, at_ => if (nextF P at_).kind = 1 then ((nextF P at_).fr :: (scanTo f P (nextF P at_).next).1, (scanTo f P (nextF P at_).next).2) else ([], at_)
def scanF (P : List UInt8) : List (Nat × List UInt8) × Int := scanTo (P.length + 1) P 0
def frOf (fs : List FrV) : List (Nat × List UInt8) := fs.map fun f => (f.place, f.pay)
theorem apartV.symm {u v : Value} (h : apartV u v) : apartV v u := by
  unfold apartV at h ⊢
  rcases h with h | h
  · by_cases hv : v.ownBlock = none
    · exact .inl hv
    · exact .inr fun e => hv (e.trans h)
  · exact .inr h.symm
/-- new bytes lie apart from what stood -/
theorem apart_new {w : World} {base e : Nat} {u v : Value} {p : List UInt8} (h : OB w base e u p) (hv : ∀ k, v.ownBlock = some k → k < base) : apartV u v := by
  by_cases hu : u.ownBlock = none
  · exact .inl hu
  · refine .inr fun e2 => ?_
    cases hk : u.ownBlock with
    | none => exact hu hk
    | some k =>
      have h1 := (h.at_base k hk).1
      have h2 := hv k (e2.symm.trans hk)
      omega
theorem pair_at (w : World) (k : Nat) (hk : w.heap.size = k) (u v : Value) (t : TypeId) : (w.alloc (.cells #[u, v] t)).cell? ((⟨k, 0, none⟩ : Addr).add 0) = some u ∧ (w.alloc (.cells #[u, v] t)).cell? ((⟨k, 0, none⟩ : Addr).add 1) = some v := by
  subst hk
  exact pair_cell w u v t
theorem scanTo_length (P : List UInt8) : ∀ (f a : Nat), a ≤ P.length → (scanTo f P a).1.length * 19 + a ≤ P.length := by
  intro f
  induction f with
  | zero => intro a ha; simpa [scanTo] using ha
  | succ f ih =>
    intro a ha
    rw [scanTo]
    by_cases hk : (nextF P a).kind = 1
    · rw [if_pos hk]
      obtain ⟨b, eb, hp1, _, _, hnx, hle, _⟩ := next_whole P a hk
      obtain rfl : b = a := by omega
      have e : (nextF P (b : Int)).next = ((b + (nextF P (b : Int)).payload.length + 18 : Nat) : Int) := by rw [hnx]; omega
      rw [e]
      have := ih (b + (nextF P (b : Int)).payload.length + 18) (by omega)
      simp only [List.length_cons]
      omega
    · rw [if_neg hk]; simpa using ha
theorem scanF_length (P : List UInt8) : (scanF P).1.length * 19 ≤ P.length := by
  have := scanTo_length P (P.length + 1) 0 (Nat.zero_le _)
  unfold scanF
  exact this
end Go.Proofs.Ytdpmalegpjimfab
