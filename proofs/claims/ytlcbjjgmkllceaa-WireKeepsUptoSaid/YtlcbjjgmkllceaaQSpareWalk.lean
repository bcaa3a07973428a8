import Derived.Test.YtlcbjjgmkllceaaQBa
/- The walks of the statements' marks: Spare, Kept, Over. -/
namespace Go.Proofs.Ytlcbjjgmkllceaa
open Go.RowKit

/-- the mark at the place j of the spare room -/
def mark (j : Nat) : UInt8 := UInt8.ofNat (j * j * 3 + j * 7 + 91)
def marks (n : Nat) : List UInt8 := (List.range n).map mark
theorem marks_length (n : Nat) : (marks n).length = n := by simp [marks]
theorem marks_succ (n : Nat) : marks (n + 1) = marks n ++ [mark n] := by simp [marks, List.range_succ]
theorem behind_calls (j : Nat) (hj : j < 40) (w : World) :
    Calls Try.prog 20 #[.int .i64 j] w fun e w' => e = .returned (.int .u8 (uB (mark j))) ∧ w = w' := by
  have hjj : 0 ≤ (j : Int) * j ∧ (j : Int) * j ≤ 1600 := by
    have h1 : j * j ≤ 40 * 40 := Nat.mul_le_mul (by omega) (by omega)
    have h2 : ((j * j : Nat) : Int) = (j : Int) * j := by simp
    omega
  go_enter Try.func20, Try.ntmps20
  go_wp2
  go_ret
  exact ⟨ret_int (by unfold mark; rw [uB_ofNat]; omega), rfl⟩

structure SpareRel (w : World) (p : List UInt8) (k : Nat) (wr : World) : Prop where
  own : OB wr w.heap.size 5 (.slice (some ⟨w.heap.size, 0, none⟩) (p ++ marks k).length (p.length + 40)) (p ++ marks k)
  below : Below w.heap.size w wr

theorem spare_calls (A : Option Addr) (p : List UInt8) (c : Nat) (w : World) (hp : RB w A c p) (hl : p.length ≤ 140737488355328) :
    Calls Try.prog 6 #[.slice A p.length c] w fun e w' =>
      e = .returned (.tuple #[.slice (some ⟨w.heap.size, 0, none⟩) p.length (p.length + 40), .slice (some ⟨w.heap.size, 0, none⟩) (p.length + 40) (p.length + 40)]) ∧
      NewB w w' (.slice (some ⟨w.heap.size, 0, none⟩) (p.length + 40) (p.length + 40)) (p ++ marks 40) := by
  have hs := hp.small
  go_enter Try.func6, Try.ntmps6
  go_wp2_with (first | (refine wp_makeB0 bt rfl _ _ rfl .i64 .i64 _ (p.length + 40) rfl rfl (by omega) (by omega) w.heap.size (Nat.le_refl _) fun w1 ho hb => ?_) | (refine wp_appendB_fits bt rfl (.tmp 10) (.tmp 11) rfl w.heap.size w.heap.size (p.length + 40) [] 0 rfl rfl ho A p p.length c rfl rfl (hp.new hb) (by simp) p rfl fun w2 ho2 hg2 => ?_))
  have HR : SpareRel w p 0 w2 := ⟨by simpa [marks] using ho2, hb.grown hg2 hb.size (fun k e => by have := Option.some.inj e; omega)⟩
  clear ho hb ho2 hg2
  go_loopw [4, 5] (fun v i wr => ∃ k : Nat, k ≤ 40 ∧ i = .int .i64 k ∧ v = .slice (some ⟨w.heap.size, 0, none⟩) (p.length + k) (p.length + 40) ∧ SpareRel w p k wr) (fun _ i _ => 40 - (intOf i).toNat)
  case atStart => exact ⟨0, by omega, rfl, rfl, HR⟩
  case round =>
    clear HR
    obtain ⟨k, hk, rfl, rfl, HR⟩ := hrel
    by_cases hlt : k < 40
    · have HO := HR.own
      have HB := HR.below
      have hsz := HB.size
      have e1 : (p ++ marks k).length = p.length + k := by rw [List.length_append, marks_length]
      have E1 := Lib.hid e1
      clear e1
      go_wp2_with (first | (go_at_call 20; (with_reducible refine (behind_calls k hlt _).mono ?_); rintro e w' ⟨rfl, rfl⟩) | (refine wp_appendB_fits bt rfl (.tmp 17) (.tmp 20) rfl w.heap.size w.heap.size (p.length + 40) (p ++ marks k) (p.length + k) E1.out.symm rfl (by rw [← E1.out]; exact HO.alloc _) (some ⟨wr.heap.size, 0, none⟩) [mark k] 1 1 rfl rfl (RB.one wr _ _) (by rw [E1.out]; simp; omega) (p ++ marks (k + 1)) (by rw [marks_succ, List.append_assoc]) fun w2 ho2 hg2 => ?_))
      go_roundw
      case rel => exact ⟨k + 1, by omega, by go_num, by simp [marks_length] <;> omega, ho2, (below_alloc1 HB (by omega) _).grown hg2 (by simp <;> omega) (fun k e => by have := Option.some.inj e; omega)⟩
      case measure => simp [intOf]; omega
    · have HO := HR.own
      have HB := HR.below
      have hk40 : k = 40 := by omega
      have HK := Lib.hid hk40
      clear hk40
      go_wp2
      go_ret2
      obtain rfl := HK.out
      refine ⟨rfl, ?_, HB⟩
      rw [List.length_append, marks_length] at HO
      exact HO

def overB (k : Nat) (b : UInt8) : UInt8 := UInt8.ofNat (b.toNat * 3 + k + 85)
def overTo (p : List UInt8) (n : Nat) : List UInt8 := p.mapIdx fun k b => if k < n then overB k b else b
def over (p : List UInt8) : List UInt8 := overTo p p.length
theorem overTo_length (p : List UInt8) (n : Nat) : (overTo p n).length = p.length := by simp [overTo]
theorem over_length (p : List UInt8) : (over p).length = p.length := overTo_length p _
theorem overTo_zero (p : List UInt8) : overTo p 0 = p := by
  apply List.ext_getElem
  · simp [overTo]
  · intro i h1 h2; simp [overTo]
theorem overTo_get (p : List UInt8) (n i : Nat) (h : i < p.length) : (overTo p n)[i]'(by rw [overTo_length]; exact h) = if i < n then overB i p[i] else p[i] := by simp [overTo]
theorem overTo_succ (p : List UInt8) (k : Nat) (h : k < p.length) : (overTo p k).set k (overB k p[k]) = overTo p (k + 1) := by
  apply List.ext_getElem
  · simp [overTo]
  · intro i h1 h2
    have hi : i < p.length := by simpa [overTo] using h2
    rw [List.getElem_set, overTo_get _ _ _ hi, overTo_get _ _ _ hi]
    by_cases e : k = i
    · subst e; simp
    · rw [if_neg e]
      by_cases h3 : i < k
      · rw [if_pos h3, if_pos (by omega)]
      · rw [if_neg h3, if_neg (by omega)]
theorem overB_eq (k : Nat) (b : UInt8) : uB (overB k b) = (uB b * 3 + (k : Int) + 85) % 256 := by
  unfold overB
  rw [uB_ofNat]
  unfold uB
  omega

/-- Over writes in the first bytes of a row of the call's own -/
theorem over_calls (base g m cap cap' : Nat) (p r : List UInt8) (w : World) (ho : OB w base 5 (.slice (some ⟨g, 0, none⟩) m cap) (p ++ r)) :
    Calls Try.prog 11 #[.slice (some ⟨g, 0, none⟩) p.length cap'] w fun e w' =>
      e = .returned (.tuple #[]) ∧ OB w' base 5 (.slice (some ⟨g, 0, none⟩) m cap) (over p ++ r) ∧ w.grownBy w' (some g) := by
  have hs : p.length ≤ 9223372036854775807 := by
    have := ho.reads.small
    rw [List.length_append] at this
    omega
  go_enter Try.func11, Try.ntmps11
  go_wp2
  go_loopw [5] (fun i wr => ∃ k : Nat, k ≤ p.length ∧ i = .int .i64 k ∧ OB wr base 5 (.slice (some ⟨g, 0, none⟩) m cap) (overTo p k ++ r) ∧ w.grownBy wr (some g)) (fun i _ => p.length - (intOf i).toNat)
  case atStart => exact ⟨0, by omega, rfl, by rw [overTo_zero]; exact ho, ⟨rfl, rfl, rfl, Nat.le_refl _, fun _ _ _ => rfl⟩⟩
  case round =>
    obtain ⟨k, hk, rfl, HO, HG⟩ := hrel
    by_cases hlt : k < p.length
    · have hkl : k < (overTo p k ++ r).length := by rw [List.length_append, overTo_length]; omega
      obtain ⟨hc, hf⟩ := HO.cell k hkl
      have e1 : (overTo p k ++ r)[k] = p[k] := by
        rw [List.getElem_append_left (by rw [overTo_length]; exact hlt), overTo_get _ _ _ hlt, if_neg (Nat.lt_irrefl k)]
      rw [e1] at hc
      obtain ⟨h1, h2⟩ := HO.set k (overB k p[k])
      rw [List.set_append_left _ _ (by rw [overTo_length]; exact hlt), overTo_succ p k hlt, overB_eq] at h1
      rw [overB_eq] at h2
      have hr := uB_range p[k]
      clear e1 hkl
      have H1 := Lib.hid h1
      have H2 := Lib.hid h2
      clear h1 h2
      go_wp2
      go_roundw
      case rel => exact ⟨k + 1, by omega, by go_num, H1.out, ⟨H2.out.os.trans HG.os, H2.out.tape.trans HG.tape, H2.out.output.trans HG.output, Nat.le_trans HG.size H2.out.size, fun j h3 h4 => (H2.out.block j (Nat.lt_of_lt_of_le h3 HG.size) h4).trans (HG.block j h3 h4)⟩⟩
      case measure => simp [intOf]; omega
    · have hk' : k = p.length := by omega
      have HK := Lib.hid hk'
      clear hk'
      go_wp2
      go_end0
      rw [HK.out] at HO
      exact ⟨rfl, HO, HG⟩

theorem kept_calls (A B : Option Addr) (c d : Nat) (p : List UInt8) (w : World) (hf : RB w A c (p ++ marks 40)) (hp : RB w B d p) (n : Nat) (hn : n = p.length + 40) (hl : p.length ≤ 140737488355328) :
    Calls Try.prog 10 #[.slice A n c, .slice B p.length d] w fun e w' => e = .returned (.bool true) ∧ Drawn w w' := by
  subst hn
  have hfl : (p ++ marks 40).length = p.length + 40 := by rw [List.length_append, marks_length]
  have hpre : RB w A c p := by
    have := hf.take p.length
    rwa [List.take_left] at this
  obtain ⟨a, rfl, _⟩ := hf.out (by omega)
  have hb : ((p.length : Int) + 40 != (p.length : Int) + 40) = false := by simp
  have h0 : p.length ≤ c := hpre.len
  have hc9 := hpre.cap
  have hat : ∀ k (hk : k < 40), w.cell? (a.add (p.length + k)) = some (.int .u8 (uB (mark k))) := by
    intro k hk
    obtain ⟨a', e, h⟩ := hf.at_ (p.length + k) (by omega)
    obtain rfl := Option.some.inj e
    rw [List.getElem_append_right (by omega)] at h
    simpa [marks] using h
  have HAT := Lib.hid hat
  have HP := Lib.hid hpre
  clear hat hpre hfl
  go_enter Try.func10, Try.ntmps10
  go_wp2_with (go_at_call 9; (with_reducible refine (same_calls (some a) B p p c d _ HP.out hp).mono ?_); rw [beq_self_eq_true]; rintro e w1 ⟨rfl, hd1⟩)
  go_loopw [5] (fun i wr => ∃ k : Nat, k ≤ 40 ∧ i = .int .i64 k ∧ Drawn w wr) (fun i _ => 40 - (intOf i).toNat)
  case atStart => exact ⟨0, by omega, rfl, hd1⟩
  case round =>
    clear hd1
    obtain ⟨k, hk, rfl, HD⟩ := hrel
    by_cases hlt : k < 40
    · have hc := HD.cell (HAT.out k hlt)
      have i0 : (0 : Int) ≤ (p.length : Int) + k := by omega
      have i1 : (p.length : Int) + k < (p.length : Int) + 40 := by omega
      have hx : (uB (mark k) != uB (mark k)) = false := by simp
      have hw : IntKind.i64.wrap ((p.length : Int) + k) = (p.length : Int) + k := IntWalk.i64_in _ (by omega)
      have ht : ((p.length : Int) + k).toNat = p.length + k := by omega
      go_wp2
      go_quiet ((go_at_call 20; exact Calls.quiet_of_same ((behind_calls k hlt _).mono fun _ _ h => ⟨h.1, h.2.symm⟩)))
      go_wp2
      go_roundw
      case rel => exact ⟨k + 1, by omega, by go_num, HD.step _⟩
      case measure => simp [intOf]; omega
    · go_wp2
      go_ret
      exact ⟨rfl, HD⟩


theorem overR (base g m cap n cap' : Nat) (p r : List UInt8) (w : World) (ho : OB w base 5 (.slice (some ⟨g, 0, none⟩) m cap) (p ++ r)) (hn : n = p.length) :
    Calls Try.prog 11 #[.slice (some ⟨g, 0, none⟩) n cap'] w fun e w' =>
      e = .returned (.tuple #[]) ∧ OB w' base 5 (.slice (some ⟨g, 0, none⟩) m cap) (over p ++ r) ∧ w.grownBy w' (some g) := by
  subst hn; exact over_calls base g m cap cap' p r w ho
end Go.Proofs.Ytlcbjjgmkllceaa
