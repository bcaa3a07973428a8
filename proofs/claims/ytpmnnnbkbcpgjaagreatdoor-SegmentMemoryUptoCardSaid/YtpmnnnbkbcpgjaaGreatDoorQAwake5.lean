import Derived.Test.YtpmnnnbkbcpgjaaGreatDoorQSameEntry
import Derived.Lib.SmallJoins
/- The walk of notarylaw05.awake. -/
namespace Go.Proofs.YtpmnnnbkbcpgjaaGreatDoor
open Go.RowKit
open WireMath (numS beN rawS blobS uvarS grpL uvarL wideL)

def aE : En := ⟨1, [107], [118]⟩
def aL : List En := [⟨2, [], []⟩]
def aP : List UInt8 := [1, 1, 107, 1, 118]
def aQ : List UInt8 := [0xac, 2, 1, 2, 0]
theorem encE_a : encE aE = (aP, 0) := by decide
theorem chkF_a : chkF aE = 0 := by decide
theorem encBF_a : encBF 300 aL = (aQ, 0) := by decide
theorem decF_a : decF aP = (0, aE) := by kernel_rfl
theorem decB_a : decB aQ = ⟨0, 300, aL⟩ := by kernel_rfl

theorem RB.litA (w : World) (e : TypeId) (C : Array Value) (p : List UInt8) (h : C = (encB p).toArray) (n : Nat) (hn : n = p.length) (hs : p.length ≤ 1000) (k : Nat) (hk : w.heap.size = k) : RB (w.alloc (.cells C e)) (some ⟨k, 0, none⟩) n p := by
  subst hk; exact RB.lit w e (0, 0) C p h n hn hs
theorem check5 (KA VA : Option Addr) (kc vc : Nat) (w : World) :
    Calls Tryz.prog 86 #[.agg #[.int .u8 1, .slice KA 1 kc, .slice VA 1 vc]] w fun r w' => r = .returned (.int .i64 0) ∧ Below w.heap.size w w' := checkN aE KA VA 1 1 kc vc w rfl rfl 0 rfl
theorem encB5 (A : Option Addr) (c : Nat) (es : List EnX) (w : World) (h : Ents w A es) (he : ensOf es = aL) :
    Calls Tryz.prog 52 #[.agg #[.int .u64 300, .slice A 1 c]] w fun r w' => ∃ A' c', r = .returned (.tuple #[.slice A' 5 c', .int .i64 0]) ∧ NewB w w' (.slice A' 5 c') aQ := by
  have hl : 1 = es.length := by have := congrArg List.length he; simpa [ensOf, aL] using this.symm
  exact encB_calls 300 300 rfl (by decide) A 1 c es w h hl (by decide) aQ 0 (by rw [he]; exact encBF_a)
theorem decB5 (A : Option Addr) (c : Nat) (w : World) (hp : RB w A c aQ) :
    Calls Tryz.prog 58 #[.slice A 5 c] w fun r w' => ∃ A' c', r = .returned (.tuple #[.agg #[.int .u64 300, .slice A' 1 c'], .int .i64 0]) ∧ BatAt w w' A' 1 aL := decodeB_calls A aQ 5 c w hp rfl (by decide) _ decB_a
theorem same5 (a : EnA) (KA VA : Option Addr) (kc vc : Nat) (w : World) (ha : EnOk w aE a) (hk : RB w KA kc [107]) (hv : RB w VA vc [118]) :
    Calls Tryz.prog 116 #[.agg #[.int .u8 1, .slice a.KA 1 a.kc, .slice a.VA 1 a.vc], .agg #[.int .u8 1, .slice KA 1 kc, .slice VA 1 vc]] w fun r w' => r = .returned (.bool true) ∧ Below w.heap.size w w' := sameE_calls aE a ⟨KA, kc, VA, vc⟩ 1 1 1 1 rfl rfl rfl rfl w ha ⟨by decide, hk, hv⟩
theorem sameB5 (A D : Option Addr) (es ds : List EnX) (c c' : Nat) (w : World) (ha : Ents w A es) (hd : Ents w D ds) (he : ensOf es = aL) (hd' : ensOf ds = aL) :
    Calls Tryz.prog 31 #[.agg #[.int .u64 300, .slice A 1 c], .agg #[.int .u64 300, .slice D 1 c']] w fun r w' => r = .returned (.bool true) ∧ Below w.heap.size w w' := by
  have hl : 1 = es.length := by have := congrArg List.length he; simpa [ensOf, aL] using this.symm
  exact sameB_calls 300 A D es ds 1 1 c c' hl hl w ha hd (he.trans hd'.symm) (by decide)
/-- the one entry of the batch -/
theorem one5 (w : World) (t : TypeId) (k : Nat) (hk : w.heap.size = k) : Ents (w.alloc (.cells #[.int .u8 2, .slice none 0 0, .slice none 0 0] t)) (some ⟨k, 0, none⟩) [(⟨2, [], []⟩, ⟨none, 0, none, 0⟩)] := by
  refine ⟨fun i hi => ?_, fun x hx => ?_⟩
  · have e : i = 0 := by simp at hi; exact hi
    subst e
    have T := Trio.fresh w k hk (.int .u8 2) (.slice none 0 0) (.slice none 0 0) t
    exact ⟨_, rfl, T.c0, T.c1, T.c2⟩
  · rw [List.mem_singleton.1 hx]
    exact ⟨by decide, RB.void _, RB.void _⟩

end Go.Proofs.YtpmnnnbkbcpgjaaGreatDoor
