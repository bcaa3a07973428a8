/- A writer's calls, over what it owns. -/
import Derived.Test.YtelecdncdaepnaaRefWire2
namespace Go.Proofs.Ytelecdncdaepnaa
open Go.RowKit
open WireMath (numS beN rawS blobS uvarS grpL grpTo uvarL uvarF grp lst wideL byteAt)

theorem u8F {w : World} {F : Nat → Prop} {b : Nat} {p : List UInt8} (h : WrF w F b p) (q : List UInt8) (v : Nat) (V : Int) (hV : V = v) (hq : p ++ [UInt8.ofNat v] = q) (hv : v ≤ 255) (hl : p.length + 8 ≤ 140737488355328) :
    Calls Try.prog 89 #[.pointer (some ⟨b, 0, none⟩), .int .u8 V] w fun e w' => ∃ F', e = .returned (.tuple #[]) ∧ WrF w' F' b q ∧ Step w w' F F' := h.call fun row hw => u8N 0 b row p q v V hV hq w hw hv hl
theorem u64F {w : World} {F : Nat → Prop} {b : Nat} {p : List UInt8} (h : WrF w F b p) (q : List UInt8) (v : Nat) (V : Int) (hV : V = v) (hq : p ++ wideL v 8 = q) (hv : v ≤ 18446744073709551615) (hl : p.length + 8 ≤ 140737488355328) :
    Calls Try.prog 78 #[.pointer (some ⟨b, 0, none⟩), .int .u64 V] w fun e w' => ∃ F', e = .returned (.tuple #[]) ∧ WrF w' F' b q ∧ Step w w' F F' := h.call fun row hw => u64N 0 b row p q v V hV hq w hw hv hl
theorem uvarFF {w : World} {F : Nat → Prop} {b : Nat} {p : List UInt8} (h : WrF w F b p) (q : List UInt8) (v : Nat) (V : Int) (hV : V = v) (hq : p ++ uvarL v = q) (hv : v ≤ 18446744073709551615) (hl : p.length + 10 ≤ 140737488355328) :
    Calls Try.prog 48 #[.pointer (some ⟨b, 0, none⟩), .int .u64 V] w fun e w' => ∃ F', e = .returned (.tuple #[]) ∧ WrF w' F' b q ∧ Step w w' F F' := h.call fun row hw => uvarN 0 b row p q v V hV hq w hw hv hl
theorem rawF {w : World} {F : Nat → Prop} {b : Nat} {p : List UInt8} (h : WrF w F b p) (A : Option Addr) (q r : List UInt8) (n c : Nat) (hr : p ++ q = r) (hq : RB w A c q) (hn : n = q.length) (hl : p.length + q.length ≤ 140737488355328) :
    Calls Try.prog 79 #[.pointer (some ⟨b, 0, none⟩), .slice A n c] w fun e w' => ∃ F', e = .returned (.tuple #[]) ∧ WrF w' F' b r ∧ Step w w' F F' := h.call fun row hw => rawN 0 b row p A q r n c hr w hw hq hn hl
theorem bytesF {w : World} {F : Nat → Prop} {b : Nat} {p : List UInt8} (h : WrF w F b p) (n : Nat) (hn : n = p.length) (hl : p.length ≤ 140737488355328) :
    Calls Try.prog 50 #[.pointer (some ⟨b, 0, none⟩)] w fun e w' => ∃ A' c', e = .returned (.slice A' n c') ∧ NewB w w' (.slice A' n c') p := by
  obtain ⟨row, hw, _⟩ := h.out
  exact bytesN 0 b row p n hn w hw hl
theorem blobF {w : World} {F : Nat → Prop} {b : Nat} {p : List UInt8} (h : WrF w F b p) (A : Option Addr) (q r : List UInt8) (n c : Nat) (hr : p ++ (uvarL q.length ++ q) = r) (hq : RB w A c q) (hf : Free F A q) (hn : n = q.length) (hl : p.length + q.length + 10 ≤ 140737488355328) :
    Calls Try.prog 90 #[.pointer (some ⟨b, 0, none⟩), .slice A n c] w fun e w' => ∃ F', e = .returned (.tuple #[]) ∧ WrF w' F' b r ∧ Step w w' F F' := by
  subst hn
  have hul := WireMath.uvarL_length q.length
  have HR := Lib.hid (show (p ++ uvarL q.length) ++ q = r by rw [← hr, List.append_assoc])
  clear hr
  go_enter Try.func90, Try.ntmps90
  go_wp2_with (first
    | (go_at_call 48; (with_reducible refine (uvarFF h (p ++ uvarL q.length) q.length _ rfl rfl (by omega) (by omega)).mono ?_); rintro e1 w1 ⟨F1, rfl, hw1, hs1⟩)
    | (go_at_call 79; (with_reducible refine (rawF hw1 A q r q.length c HR.out (hq.step hs1 hf) rfl (by rw [List.length_append]; omega)).mono ?_); rintro e2 w2 ⟨F2, rfl, hw2, hs2⟩))
  go_end0
  exact ⟨F2, rfl, hw2, hs1.trans hs2⟩

theorem wide1F (v : Nat) : wideL (v % 256) 1 = [UInt8.ofNat (v % 256)] := by simp [WireMath.wideL, WireMath.byteAt]
end Go.Proofs.Ytelecdncdaepnaa
