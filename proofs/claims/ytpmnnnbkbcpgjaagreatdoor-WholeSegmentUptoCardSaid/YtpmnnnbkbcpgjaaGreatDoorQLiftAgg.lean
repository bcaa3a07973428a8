import Derived.Test.YtpmnnnbkbcpgjaaGreatDoorQLift
import Derived.Lib.SmallJoins
/- How a struct of a number and a list of bytes that comes in as an argument reads: for the rows. -/
namespace Go.Proofs.YtpmnnnbkbcpgjaaGreatDoor
open Go.ChangeShapes Go.WideShapes Go.RowKit

theorem sized_agg {H : Type} {P : Program} {ts : List TypeId} {ds : List (DataW H)} (h : (DataW.weightsEach P ts ds).all (· ≤ reachBytes) = true) {j : Nat} {t : TypeId} {fs : Array Field} {parts : List (DataW H)} (ht : ts[j]? = some t) (hd : ds[j]? = some (.agg parts)) (hu : P.underlying t = some (.struct fs)) :
    (DataW.weightsEach P (fs.toList.map (·.type)) parts).all (· ≤ reachBytes) = true :=
  List.all_eq_true.2 fun n hn => List.all_eq_true.1 h n (DataW.weights_mem_each ht hd n (by simp only [DataW.weights, hu]; exact hn))
theorem open_bytes_cell {H : Type} {enc : TypeId × Value → H} {P : Program} {W : World} {base n : Nat} {held : Bool} {t e : TypeId} {v : Value} {y : DataW H × List MemPlace} {ts : List TypeId} {ds : List (DataW H)} {j : Nat}
    (hsz : (DataW.weightsEach P ts ds).all (· ≤ reachBytes) = true) (ht : ts[j]? = some t) (hd : ds[j]? = some y.1) (hu : P.underlying t = some (.slice e)) (he : P.underlying e = some (.int .u8)) (hc : P.cellsOf e = 1) (hB : P.bytesOf e = 1)
    (h : DataW.trod enc P W base (fun _ => true) held n t [v] = some y) : ∃ (A : Option Addr) (len c : Nat) (p : List UInt8), v = .slice A len c ∧ len = p.length ∧ RB W A c p ∧ c ≤ 140737488351232 := by
  have hv : ∃ (A : Option Addr) (len c : Nat), v = .slice A len c := by
    rcases open_ints hu he hc h with ⟨hcs, _⟩ | ⟨x, l, c, zs, hcs, _⟩
    · simp at hcs; exact ⟨none, 0, 0, hcs⟩
    · simp at hcs; exact ⟨some x, l, c, hcs⟩
  obtain ⟨A, len, c, rfl⟩ := hv
  obtain ⟨p, h1, h2, h3⟩ := open_bytes hsz ht hd hu he hc hB (⟨n, h⟩ : DataW.Trod enc P W base (fun _ => true) held t (.slice A len c) y.1 y.2)
  exact ⟨A, len, c, p, rfl, h1, h2, h3⟩
theorem open_num_cell {H : Type} {enc : TypeId × Value → H} {P : Program} {W : World} {base n : Nat} {spare : Nat → Bool} {held : Bool} {t : TypeId} {k : IntKind} {v : Value} {y : DataW H × List MemPlace} (hu : P.underlying t = some (.int k))
    (h : DataW.trod enc P W base spare held n t [v] = some y) : ∃ a : Int, v = .int k a ∧ (Lit.int k a).wf = true := by
  obtain ⟨a, h1, _, h3⟩ := DataW.trod_int hu h
  exact ⟨a, by simpa using h1, h3⟩
end Go.Proofs.YtpmnnnbkbcpgjaaGreatDoor
