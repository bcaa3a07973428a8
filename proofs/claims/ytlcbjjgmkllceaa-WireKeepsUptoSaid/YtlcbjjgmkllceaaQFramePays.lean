import Derived.Test.YtlcbjjgmkllceaaQListRows
import Derived.Test.YtlcbjjgmkllceaaQFrameScans
/- FrameKeeps: the payloads of a list of frames, as a list. -/
namespace Go.Proofs.Ytlcbjjgmkllceaa
open Go.RowKit

def hdOf (f : FrV) : Hd := ⟨f.A, f.pay.length, f.c⟩
set_option maxRecDepth 100000 in
theorem payloads_calls (b1 : Nat) (A1 : Option Addr) (n1 c1 : Nat) (fs : List FrV) (w : World) (h1 : FL w b1 43 (.slice A1 n1 c1) fs) (hn1 : n1 = fs.length) (hl : fs.length ≤ 4398046511104) :
    Calls Try.prog 30 #[.slice A1 n1 c1] w fun e w' => ∃ A c, e = .returned (.slice A fs.length c) ∧ LL w' w.heap.size (.slice A fs.length c) (fs.map hdOf) ∧ Below w.heap.size w w' := by
  subst hn1
  go_enter Try.func30, Try.ntmps30
  go_wp2
  go_loopw [3, 5, 8] (fun v _ iv wr => ∃ i : Nat, i ≤ fs.length ∧ iv = .int .i64 i ∧ LL wr w.heap.size v ((fs.map hdOf).take i) ∧ Below w.heap.size w wr) (fun _ _ i _ => fs.length - (intOf i).toNat)
  case atStart => exact ⟨0, Nat.zero_le _, rfl, LL.nil _ _, Below.refl _ _⟩
  case round =>
    obtain ⟨i, hi, rfl, HL, HB⟩ := hrel
    by_cases hlt : i < fs.length
    · obtain ⟨f, hf⟩ : ∃ f, fs[i]? = some f := ⟨_, List.getElem?_eq_getElem hlt⟩
      have H1 := h1.new HB
      obtain ⟨p1, d1, e1, _, k0, k1⟩ := H1.at_ i f hf
      injection e1 with e1a e1b e1c
      subst e1a; subst e1c
      clear e1b
      have HF := Lib.hid hf
      clear hf
      simp only [FrV.val] at k1
      have hsz := HB.size
      have hB2 := Lib.hid (belowA (belowA HB (.cells #[.int .u64 f.place, .slice f.A f.pay.length f.c] 43)) (.cells #[.slice f.A f.pay.length f.c] 23))
      have hl1 : ((fs.map hdOf).take i).length = i := by simp; omega
      have HL1 := Lib.hid hl1
      clear hl1
      go_wp2_with (refine wp_appendLL lst rfl (.tmp 12) (.tmp 15) rfl w.heap.size u3 ((fs.map hdOf).take i) [hdOf f] rfl ((HL.new (below_alloc1 (Below.refl _ _) (Nat.le_refl _) _)).new (below_alloc1 (Below.refl _ _) (Nat.le_refl _) _)) (some ⟨wr.heap.size + 1, 0, none⟩) 1 1 (by simp [Act.eval]) rfl (fun j y hy => ?_) (fun h => absurd h (by simp)) (by rw [HL1.out]; simp; omega) (by rw [asz2]; omega) fun A2 n2 c2 w2 hn2 hr2 hgr2 => ?_)
      · match j, hy with
        | 0, hy => exact ⟨_, rfl, by obtain rfl := Option.some.inj hy; exact cell_at_new _ _ _ _ (asz _ _)⟩
        | j + 1, hy => simp at hy
      go_roundw
      case rel =>
        refine ⟨i + 1, by omega, by go_num, ?_, hB2.out.grown hgr2 hB2.out.size (fun k hk => (HL.lt k hk).1)⟩
        rw [List.take_add_one, List.getElem?_map, HF.out]
        have e2 : n2 = i + 1 := by rw [hn2, List.length_append, HL1.out]; rfl
        rw [e2] at hr2
        exact hr2
      case measure => simp [intOf]; omega
    · obtain rfl : i = fs.length := by omega
      clear hlt
      obtain ⟨A, c, rfl⟩ := HL.form
      have e1 : (fs.map hdOf).take fs.length = fs.map hdOf := List.take_of_length_le (by simp)
      rw [e1, List.length_map] at HL
      have HLH := Lib.hid HL
      clear e1
      go_wp2
      go_ret
      exact ⟨A, c, by simp, HLH.out, HB⟩
end Go.Proofs.Ytlcbjjgmkllceaa
