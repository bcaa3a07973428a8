/- The walks of layer 7: Encode, Next. -/
import Derived.Test.YtdpmalegpjimfabFrameWalk
import Derived.Laws.BytesArg
import Derived.Laws.BytesString
import Derived.WideShapes
namespace Go.Proofs.Ytdpmalegpjimfab
open Go.RowKit
open WireMath (wideL)
open FrameMath (head crcP laid)

/-- the string of so many bytes -/
def strOf (p : List UInt8) : ByteArray := ⟨p.toArray⟩
theorem strOf_beq (p q : List UInt8) : ((strOf p).toList == (strOf q).toList) = (p == q) := by
  rw [ByteArray.toList_eq, ByteArray.toList_eq]; rfl
theorem run_str (w : World) (A : Option Addr) (n c : Nat) (p : List UInt8) (hp : RB w A c p) (hn : n = p.length) : (convert 23 9 (.slice A n c)).run Try.prog w = .ok (.string (strOf p)) w := by
  subst hn
  cases A with
  | none =>
    obtain ⟨rfl, rfl⟩ := hp.nil rfl
    exact run_convert_bytes_nil w 23 5 Try.underlying23 Try.underlying5 0 0 9 Try.underlying9
  | some a =>
    have hl : (loadCells a p.length).run Try.prog w = .ok ((p.map uB).map (Value.int .u8)).toArray w := by
      have := run_loadCells_list (P := Try.prog) w a (encB p) (fun j v hj => by
        have hjl : j < p.length := by
          rcases Nat.lt_or_ge j p.length with h | h
          · exact h
          · simp [List.getElem?_eq_none (show (encB p).length ≤ j by rw [encB_length]; exact h)] at hj
        obtain ⟨a', e, hc⟩ := hp.at_ j hjl
        obtain rfl := Option.some.inj e
        rw [hc]
        simp [encB, hjl] at hj
        rw [← hj])
      rw [encB_length] at this
      rw [this, List.map_map]
      rfl
    rw [run_convert_bytes_string w 23 9 5 _ p.length c Try.underlying23 Try.underlying5 Try.underlying9, run_bytesToString w _ p.length c (p.map uB) hl, foldl_push_bytes]
    congr 2
    apply ByteArray.ext
    apply Array.toList_inj.1
    have hid : (fun n : Int => UInt8.ofNat n.toNat) ∘ uB = id := by
      funext b
      simp [uB]
    simp [strOf, ByteArray.empty, ByteArray.emptyWithCapacity, hid]
    rfl

set_option maxRecDepth 100000 in
theorem bclone_calls (A : Option Addr) (p : List UInt8) (n cap : Nat) (w : World) (hp : RB w A cap p) (hn : n = p.length) (hl : p.length ≤ 140737488355328) :
    Calls Try.prog 52 #[.slice A n cap] w fun e w' => ∃ A' c', e = .returned (.slice A' n c') ∧ NewB w w' (.slice A' n c') p := by
  subst hn
  have hnil := eql_nil
  cases A with
  | none =>
    obtain ⟨rfl, rfl⟩ := hp.nil rfl
    go_enter Try.func52, Try.ntmps52
    go_wp2
    go_ret
    exact ⟨_, _, rfl, OB.nil _ _ _, Below.refl _ _⟩
  | some a =>
    go_enter Try.func52, Try.ntmps52
    go_wp2_with (refine wp_appendB_at bt rfl (.tmp 5) (.tmp 6) rfl w.heap.size (.slice (some ⟨w.heap.size, 0, Option.none⟩) 0 0) [] rfl (OB.empty w w.heap.size 5 (Nat.le_refl _)) (some a) p p.length cap rfl rfl (hp.new ((Below.refl _ _).alloc (Nat.le_refl _) _)) (by simpa using hl) (by simp) p rfl fun A3 c3 w2 ho2 hg2 _ => ?_)
    go_ret
    exact ⟨_, _, rfl, ho2, ((Below.refl _ _).alloc (Nat.le_refl _) _).grown hg2 (by simp) (fun k e => by have e2 : some w.heap.size = some k := e; have := Option.some.inj e2; omega)⟩
set_option maxRecDepth 100000 in
theorem bequal_calls (A B : Option Addr) (p q : List UInt8) (n m c d : Nat) (w : World) (hp : RB w A c p) (hq : RB w B d q) (hn : n = p.length) (hm : m = q.length) (b : Bool) (hb : (p == q) = b) :
    Calls Try.prog 53 #[.slice A n c, .slice B m d] w fun e w' => e = .returned (.bool b) ∧ w = w' := by
  have h1 := run_str w A n c p hp hn
  have h2 := run_str w B m d q hq hm
  have hs := Lib.hid ((strOf_beq p q).trans hb)
  clear hb hn hm
  generalize strOf p = x at *
  generalize strOf q = y at *
  go_enter Try.func53, Try.ntmps53
  go_wp2
  go_ret
  exact ⟨ret_bool hs.out, rfl⟩

/-- what Encode answers -/
def encF (place : Nat) (p : List UInt8) : List UInt8 × Nat := if 65535 < p.length then ([], 2) else if p.length = 0 then ([], 3) else (laid place p, 0)

set_option maxRecDepth 100000 in
theorem encode_calls (place : Nat) (hpl : place ≤ 18446744073709551615) (A : Option Addr) (p : List UInt8) (n c : Nat) (w : World) (hp : RB w A c p) (hn : n = p.length) (hl : p.length ≤ 140737488355328) :
    Calls Try.prog 34 #[.agg #[.int .u64 place, .slice A n c]] w fun e w' => ∃ A' c', e = .returned (.tuple #[.slice A' (encF place p).1.length c', .int .i64 (encF place p).2]) ∧ NewB w w' (.slice A' (encF place p).1.length c') (encF place p).1 := by
  subst hn
  have hb : ∀ u v, (w.alloc (.cells #[u, v] 33)).cell? ⟨w.heap.size, 0, none⟩ = some u ∧ (w.alloc (.cells #[u, v] 33)).cell? ⟨w.heap.size, 1, none⟩ = some v := fun u v => by
    have e := heap_alloc_new w (.cells #[u, v] 33)
    exact ⟨by rw [cell_of_row _ _ _ _ _ _ e]; rfl, by rw [cell_of_row _ _ _ _ _ _ e]; rfl⟩
  have hb1 := (hb (.int .u64 place) (.slice A p.length c)).2
  have HA := Lib.hid (below_alloc1 (Below.refl w.heap.size w) (Nat.le_refl _) (.cells #[.int .u64 place, .slice A p.length c] 33))
  by_cases h1 : 65535 < p.length
  · have hE : encF place p = ([], 2) := by unfold encF; rw [if_pos h1]
    rw [hE]
    clear hE
    go_enter Try.func34, Try.ntmps34
    go_wp2
    go_ret2
    exact ⟨none, 0, rfl, OB.nil _ _ _, HA.out⟩
  · by_cases h2 : p.length = 0
    · have hE : encF place p = ([], 3) := by unfold encF; rw [if_neg h1, if_pos h2]
      rw [hE]
      have h2' : ((p.length : Int) == 0) = true := by rw [h2]; rfl
      clear hE h2
      go_enter Try.func34, Try.ntmps34
      go_wp2
      go_ret2
      exact ⟨none, 0, rfl, OB.nil _ _ _, HA.out⟩
    · have hE : encF place p = (laid place p, 0) := by unfold encF; rw [if_neg h1, if_neg h2]
      rw [hE]
      have h2' : ((p.length : Int) == 0) = false := by rw [beq_eq_false_iff_ne]; omega
      have hL := FrameMath.laid_length place p
      clear hE h2
      have HL := Lib.hid hL
      clear hL
      go_enter Try.func34, Try.ntmps34
      go_wp2_with (go_at_call 54; (with_reducible refine (lay_calls place hpl A p p.length c _ (hp.new HA.out) rfl (by omega)).mono ?_); rintro e w2 ⟨A2, c2, rfl, hn2⟩)
      go_ret2
      refine ⟨A2, c2, by rw [HL.out]; rfl, ?_⟩
      have ho := hn2.own.mono HA.out.size
      rw [← HL.out] at ho
      exact ⟨ho, below_then HA.out hn2.below⟩
end Go.Proofs.Ytdpmalegpjimfab
