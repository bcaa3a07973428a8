/- The laws' own call of layer 1: ask. -/
import Derived.Test.YtdpmalegpjimfabWireScript
import Derived.Test.YtdpmalegpjimfabTakeMath
import Derived.Test.YtdpmalegpjimfabWireLaws
namespace Go.Proofs.Ytdpmalegpjimfab
open Go.RowKit

theorem results_op {fn : Func} {p : Tmp} (h : fn.results = #[.cell p 60]) (tmps : Array Value) (w : World) (b : Nat) (x y z u : Value) (hp : tmps.getD p undef = .pointer (some ⟨b, 0, none⟩)) (ht : Quad w b x y z u) :
    (results fn tmps).run Try.prog w = .ok (.agg #[x, y, z, u]) w := by
  have hp' : tmps[p]?.getD undef = .pointer (some ⟨b, 0, none⟩) := by simpa using hp
  have hl := run_loadVar_mid (P := Try.prog) w b 0 60 [x, y, z, u] _ (fun j v hj => by
    match j, hj with
    | 0, hj => simp at hj; subst hj; simpa using ht.c0
    | 1, hj => simp at hj; subst hj; simpa using ht.c1
    | 2, hj => simp at hj; subst hj; simpa using ht.c2
    | 3, hj => simp at hj; subst hj; simpa using ht.c3
    | j + 4, hj => simp at hj) Try.underlying60 rfl (by kernel_rfl)
  simp [results, h, hp', asAddr, hl]
/-- how many bytes ask asks for -/
def askN (k : Int) (m : Nat) (s : Int) : Int := if k = 7 ∧ 0 < s ∧ s < 1099511627776 then m + s else m
theorem askN_le (k : Int) (m : Nat) (s : Int) (hm : m ≤ 4611686018427387904) : askN k m s ≤ 9223372036854775807 := by unfold askN; split <;> omega
set_option maxRecDepth 100000 in
theorem ask_calls (k : Int) (v : Nat) (n : Int) (A : Option Addr) (m c : Nat) (s : Int) (hm : m ≤ 4611686018427387904) (w : World) (N : Int) (hN : askN k m s = N) :
    Calls Try.prog 42 #[.agg #[.int .i64 k, .int .u64 v, .int .i64 n, .slice A m c], .int .i64 s] w fun e w' => e = .returned (.agg #[.int .i64 k, .int .u64 v, .int .i64 N, .slice A m c]) ∧ Below w.heap.size w w' := by
  by_cases h7 : k = 7
  · subst h7
    by_cases hs : 0 < s ∧ s < 1099511627776
    · have hn : N = m + s := by rw [← hN]; unfold askN; rw [if_pos ⟨rfl, hs⟩]
      obtain ⟨s0, s1⟩ := hs
      clear hN
      subst hn
      go_enter Try.func42, Try.ntmps42
      go_wp2
      exact bodyPost_ret (results_op rfl _ _ (w.heap.size + 1) _ _ _ _ rfl (Quad.fresh (w.alloc (.cells #[.int .i64 7, .int .u64 v, .int .i64 ((m : Int) + s), .slice A m c] 60)) (w.heap.size + 1) (Array.size_push ..) _ _ _ _ _)) rfl ⟨rfl, two_boxes _ _ _⟩
    · have hn : N = m := by rw [← hN]; unfold askN; rw [if_neg (fun h => hs h.2)]
      clear hN
      subst hn
      by_cases s0 : 0 < s
      · have s1 : ¬ s < 1099511627776 := fun h => hs ⟨s0, h⟩
        clear hs
        go_enter Try.func42, Try.ntmps42
        go_wp2
        exact bodyPost_ret (results_op rfl _ _ (w.heap.size + 1) _ _ _ _ rfl (Quad.fresh (w.alloc (.cells #[.int .i64 7, .int .u64 v, .int .i64 m, .slice A m c] 60)) (w.heap.size + 1) (Array.size_push ..) _ _ _ _ _)) rfl ⟨rfl, two_boxes _ _ _⟩
      · clear hs
        go_enter Try.func42, Try.ntmps42
        go_wp2
        exact bodyPost_ret (results_op rfl _ _ (w.heap.size + 1) _ _ _ _ rfl (Quad.fresh (w.alloc (.cells #[.int .i64 7, .int .u64 v, .int .i64 m, .slice A m c] 60)) (w.heap.size + 1) (Array.size_push ..) _ _ _ _ _)) rfl ⟨rfl, two_boxes _ _ _⟩
  · have hn : N = m := by rw [← hN]; unfold askN; rw [if_neg (fun h => h7 h.1)]
    have b7 : (k == 7) = false := by rw [beq_eq_false_iff_ne]; exact h7
    clear hN h7
    subst hn
    go_enter Try.func42, Try.ntmps42
    go_wp2
    exact bodyPost_ret (results_op rfl _ _ (w.heap.size + 1) _ _ _ _ rfl (Quad.fresh (w.alloc (.cells #[.int .i64 k, .int .u64 v, .int .i64 m, .slice A m c] 60)) (w.heap.size + 1) (Array.size_push ..) _ _ _ _ _)) rfl ⟨rfl, two_boxes _ _ _⟩
/-- where a script's thing stands among all that was laid -/
theorem drop_laid (l : List OpV) (j : Nat) (o : OpV) (h : l[j]? = some o) : (laidAll l).drop (laidAll (l.take j)).length = laidL o.k o.v o.P ++ laidAll (l.drop (j + 1)) := by
  obtain ⟨hi, rfl⟩ := List.getElem?_eq_some_iff.1 h
  have e : laidAll l = laidAll (l.take j) ++ (laidL l[j].k l[j].v l[j].P ++ laidAll (l.drop (j + 1))) := by
    rw [← List.append_assoc, ← laidAll_snoc l j _ h]
    unfold laidAll
    rw [← List.flatMap_append, List.take_append_drop]
  conv => lhs; rw [e]
  exact List.drop_left' rfl
theorem laid_ge (k : Int) (v : Nat) (P : List UInt8) (h6 : 6 ≤ k) (h7 : k ≤ 7) : P.length ≤ (laidL k v P).length := by
  have hw : ¬ 0 < widthF k := fun h => by have := (widthF_pos k).1 h; omega
  unfold laidL
  rw [if_neg hw, if_neg (by omega)]
  by_cases h : k = 6
  · rw [if_pos h]; exact Nat.le_refl _
  · rw [if_neg h, if_pos (by omega), List.length_append]; omega
end Go.Proofs.Ytdpmalegpjimfab
