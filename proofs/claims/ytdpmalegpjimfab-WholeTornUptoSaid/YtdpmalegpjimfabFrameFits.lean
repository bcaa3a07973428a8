/- What the laws of layer 7 share: fits, pieces that can't be framed. -/
import Derived.Test.YtdpmalegpjimfabFrameLaws
namespace Go.Proofs.Ytdpmalegpjimfab
open Go.RowKit
open FrameMath (laid)

theorem joinF (A B : Option Addr) (p q r : List UInt8) (n m k c d : Nat) (w : World) (hp : RB w A c p) (hq : RB w B d q) (hn : n = p.length) (hm : m = q.length) (hk : k = p.length + q.length) (hr : p ++ q = r) (hl : p.length + q.length ≤ 281474976710656) :
    Calls Try.prog 17 #[.slice A n c, .slice B m d] w fun e w' => ∃ A' c', e = .returned (.slice A' k c') ∧ NewB w w' (.slice A' k c') r := by
  subst hn; subst hm; subst hr; subst hk
  have := join_bytes_calls A B p q c d w hp hq hl
  simp only [List.length_append] at this
  exact this
theorem fits_yes (A : Option Addr) (n c : Nat) (w : World) (h1 : 1 ≤ n) (h2 : n ≤ 65535) : Calls Try.prog 16 #[.slice A n c] w fun e w' => e = .returned (.bool true) ∧ w = w' := by
  go_enter Try.func16, Try.ntmps16
  go_wp2
  go_ret
  exact ⟨ret_bool (by simp; omega), rfl⟩
theorem fits_long (A : Option Addr) (n c : Nat) (w : World) (h2 : 65535 < n) : Calls Try.prog 16 #[.slice A n c] w fun e w' => e = .returned (.bool false) ∧ w = w' := by
  go_enter Try.func16, Try.ntmps16
  go_wp2
  go_ret
  exact ⟨ret_bool (by simp; omega), rfl⟩
theorem fits_none (A : Option Addr) (n c : Nat) (w : World) (h2 : n = 0) : Calls Try.prog 16 #[.slice A n c] w fun e w' => e = .returned (.bool false) ∧ w = w' := by
  subst h2
  go_enter Try.func16, Try.ntmps16
  go_wp2
  go_ret
  exact ⟨rfl, rfl⟩
/-- a payload that can't be framed -/
theorem made_none (place : Nat) (hpl : place ≤ 18446744073709551615) (A : Option Addr) (p : List UInt8) (n c : Nat) (E : Int) (e : Nat) (w : World) (hp : RB w A c p) (hn : n = p.length) (hl : p.length ≤ 140737488355328) (he : encF place p = ([], e)) (hE : E = e) :
    Calls Try.prog 14 #[.int .u64 place, .slice A n c] w fun e' w' => ∃ A' c', e' = .returned (.tuple #[.slice A' 0 c', .int .i64 E]) ∧ NewB w w' (.slice A' 0 c') [] := by
  subst hE
  have := made_calls place hpl A p n c w hp hn hl
  rw [he] at this
  exact this

theorem OB.some_ {w : World} {base e n c : Nat} {A : Option Addr} {p : List UInt8} (h : OB w base e (.slice A n c) p) (hp : 0 < p.length) : ∃ g, A = some ⟨g, 0, none⟩ ∧ base ≤ g := by
  rcases h.out.2 with ⟨h0, h1⟩ | ⟨g, cap, cur, hv, hg, _⟩
  · exfalso
    have := h.out.1
    simp_all
  · injection hv with e1
    exact ⟨g, e1, hg⟩

theorem fempty0 (A : Option Addr) (c : Nat) (w : World) (hp : RB w A c []) (U : Int) (hU : U = ((0 : Nat) : Int)) :
    Calls Try.prog 20 #[.agg #[.int .u64 U, .slice A 0 c]] w fun e w' => e = .returned (.bool true) ∧ Below w.heap.size w w' := by
  subst hU; exact fempty_calls 0 A [] 0 c w hp rfl true rfl
theorem make_noughts (n : Nat) (h : n ≤ 281474976710656) : ∃ Z : Array Value, Z.toList = encB (List.replicate n 0) ∧ ∀ w : World, (Instr.makeSlice 23 (.int .i64 n) (.int .i64 n)).run Try.prog w = .ok (.slice (some ⟨w.heap.size, 0, none⟩) n n) (w.alloc (.cells Z 5)) := by
  obtain ⟨i, hi, hz, hs, hb⟩ := info_parts bt.info
  refine ⟨madeCells (Value.int .u8 0).cells (n * 1), ?_, fun w => ?_⟩
  · rw [Nat.mul_one]
    apply List.ext_getElem
    · simp [madeCells, encB]
    · intro j h1 h2
      simp [madeCells, encB, Value.cells, uB, Nat.mod_one]
  · have := run_make (P := Try.prog) w 23 5 i (.int .u8 0) bt.sl hi hz .i64 .i64 n n (by omega) (Int.le_refl _) (by rw [hb]; omega) (by omega)
    rw [hs] at this
    simpa using this
/-- a new row of noughts -/
theorem RB.noughts (w : World) (e : Nat) (Z : Array Value) (n : Nat) (hZ : Z.toList = encB (List.replicate n 0)) (k : Nat) (hk : w.heap.size = k) (hs : n ≤ 9223372036854775807) : RB (w.alloc (.cells Z e)) (some ⟨k, 0, none⟩) n (List.replicate n 0) := by
  subst hk
  refine ⟨fun _ => ⟨_, rfl, fun i hi => ?_⟩, fun e => absurd e (by simp), by simp, by omega⟩
  have e1 : (⟨w.heap.size, 0, none⟩ : Addr).add i = ⟨w.heap.size, i, none⟩ := by unfold Addr.add; split <;> simp_all
  have hi' : i < n := by simpa using hi
  rw [e1, cell_of_row _ _ _ _ _ _ (heap_alloc_new w _)]
  have : Z[i]? = some (.int .u8 (uB 0)) := by
    rw [← Array.getElem?_toList, hZ]
    simp [encB, hi']
  rw [this]
  simp
theorem RB.drewF {w : World} {A : Option Addr} {c : Nat} {p : List UInt8} (h : RB w A c p) : RB w.drew A c p := h.new (below_drew _ _)
end Go.Proofs.Ytdpmalegpjimfab
