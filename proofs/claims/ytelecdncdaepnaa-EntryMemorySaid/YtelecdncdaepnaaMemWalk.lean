/- The walks of the small functions on lists of bytes that the statements use: Twin, Join, Same, Spare, Kept, Over. -/
import Derived.Test.YtelecdncdaepnaaWords
import Derived.Deep.LoopGhost
import Derived.Deep.DeepCutAuto
import Derived.Deep.QuietTactic
import Derived.BigQuiet
namespace Go.Proofs.Ytelecdncdaepnaa
open Go.RowKit

theorem bt : ByteT Try.prog 24 5 := ⟨Try.underlying24, by kernel_rfl⟩

/-- a list of bytes in new memory -/
structure NewB (w w' : World) (v : Value) (p : List UInt8) : Prop where
  own : OB w' w.heap.size 5 v p
  below : Below w.heap.size w w'

theorem twin_exact (A : Option Addr) (p : List UInt8) (cap : Nat) (w : World) (hp : RB w A cap p) (hl : p.length ≤ 140737488355328) :
    Calls Try.prog 20 #[.slice A p.length cap] w fun e w' => e = .returned (.slice (some ⟨w.heap.size, 0, none⟩) p.length p.length) ∧ NewB w w' (.slice (some ⟨w.heap.size, 0, none⟩) p.length p.length) p := by
  go_enter Try.func20, Try.ntmps20
  go_wp2_with (first | (refine wp_makeB bt rfl _ _ rfl .i64 .i64 p.length p.length rfl rfl rfl (by omega) w.heap.size (Nat.le_refl _) fun w1 ho hb => ?_) | (refine wp_copyB bt rfl _ _ rfl w.heap.size w.heap.size p.length _ p p.length rfl ho A p.length cap rfl rfl rfl (by simp) (hp.new hb) fun w2 ho2 hg2 => ?_))
  go_ret
  exact ⟨rfl, ho2, hb.grown hg2 hb.size (fun k e => by have := Option.some.inj e; omega)⟩
theorem twin_calls (A : Option Addr) (p : List UInt8) (cap : Nat) (w : World) (hp : RB w A cap p) (hl : p.length ≤ 140737488355328) :
    Calls Try.prog 20 #[.slice A p.length cap] w fun e w' => ∃ A' c', e = .returned (.slice A' p.length c') ∧ NewB w w' (.slice A' p.length c') p :=
  (twin_exact A p cap w hp hl).mono fun _ _ ⟨h1, h2⟩ => ⟨_, _, h1, h2⟩


theorem uB_ofNat (n : Nat) : uB (UInt8.ofNat n) = (n : Int) % 256 := by
  unfold uB
  rw [UInt8.toNat_ofNat']
  omega

theorem join_bytes_calls (A B : Option Addr) (p q : List UInt8) (c d : Nat) (w : World) (hp : RB w A c p) (hq : RB w B d q) (hl : p.length + q.length ≤ 281474976710656) :
    Calls Try.prog 53 #[.slice A p.length c, .slice B q.length d] w fun e w' => ∃ A' c', e = .returned (.slice A' (p ++ q).length c') ∧ NewB w w' (.slice A' (p ++ q).length c') (p ++ q) := by
  go_enter Try.func53, Try.ntmps53
  go_wp2_with (first | (refine wp_makeB0 bt rfl _ _ rfl .i64 .i64 _ (p.length + q.length) rfl rfl (by omega) (by omega) w.heap.size (Nat.le_refl _) fun w1 ho hb => ?_) | (refine wp_appendB_fits bt rfl (.tmp 12) (.tmp 13) rfl w.heap.size w.heap.size (p.length + q.length) [] 0 rfl rfl ho A p p.length c rfl rfl (hp.new hb) (by simp) p rfl fun w2 ho2 hg2 => ?_) | (refine wp_appendB_fits bt rfl (.tmp 15) (.tmp 16) rfl w.heap.size w.heap.size (p.length + q.length) p p.length rfl rfl ho2 B q q.length d rfl rfl (hq.below (hb.grown hg2 hb.size (fun k e => by have := Option.some.inj e; omega)) hq.old) (by simp) (p ++ q) rfl fun w3 ho3 hg3 => ?_))
  go_ret
  refine ⟨some ⟨w.heap.size, 0, none⟩, p.length + q.length, ?_, ho3, ?_⟩
  · simp
  · exact (hb.grown hg2 hb.size (fun k e => by have := Option.some.inj e; omega)).grown hg3 (Nat.le_trans hb.size hg2.size) (fun k e => by have := Option.some.inj e; omega)

theorem same_calls (A B : Option Addr) (p q : List UInt8) (c d : Nat) (w : World) (hp : RB w A c p) (hq : RB w B d q) :
    Calls Try.prog 19 #[.slice A p.length c, .slice B q.length d] w fun e w' => e = .returned (.bool (p == q)) ∧ Drawn w w' := by
  by_cases hn : p.length = q.length
  · have hb : ((p.length : Int) != (q.length : Int)) = false := by rw [hn]; simp
    have HN := Lib.hid hn
    clear hn
    have hs := hp.small
    go_enter Try.func19, Try.ntmps19
    go_wp2
    go_loopw [13] (fun i wr => ∃ k : Nat, k ≤ p.length ∧ i = .int .i64 k ∧ Drawn w wr ∧ Hid (p.take k = q.take k)) (fun i _ => p.length - (intOf i).toNat)
    case atStart => exact ⟨0, by omega, rfl, Drawn.refl _, Lib.hid rfl⟩
    case round =>
      obtain ⟨k, hk, rfl, HD, HT⟩ := hrel
      obtain ⟨m, rfl⟩ := HD.out
      by_cases hlt : k < p.length
      · have hlt2 : k < q.length := by rw [← HN.out]; exact hlt
        obtain ⟨a, rfl, hc⟩ := hp.at_ k hlt
        obtain ⟨b, rfl, hd⟩ := hq.at_ k hlt2
        have i0 : (0 : Int) ≤ (k : Int) := by omega
        have i1 : (k : Int) < (p.length : Int) := by omega
        have i2 : (k : Int) < (q.length : Int) := by omega
        by_cases he : p[k] = q[k]
        · have hbb : (uB p[k] != uB q[k]) = false := by rw [he]; simp
          have HE := Lib.hid he
          clear he
          go_wp2
          go_quiet (fail)
          go_wp2
          go_roundw
          case rel => exact ⟨k + 1, by omega, by go_num, ⟨_, rfl⟩, Lib.hid (by rw [List.take_succ_eq_append_getElem hlt, List.take_succ_eq_append_getElem hlt2, HT.out, HE.out])⟩
          case measure => simp [intOf]; omega
        · have hbb : (uB p[k] != uB q[k]) = true := by
            rw [bne_iff_ne]; unfold uB; intro e; exact he (UInt8.toNat_inj.1 (by omega))
          have hf : (p == q) = false := by
            rw [beq_eq_false_iff_ne]; intro e; subst e; exact he rfl
          have HF := Lib.hid hf
          clear he hf
          go_wp2
          go_quiet (fail)
          go_wp2
          go_ret
          exact ⟨ret_bool HF.out.symm, ⟨_, World.drewN_drewN ..⟩⟩
      · have ht : (p == q) = true := by
          rw [beq_iff_eq]
          have h1 := HT.out
          have h2 := HN.out
          rw [List.take_of_length_le (by omega), List.take_of_length_le (by omega)] at h1
          exact h1
        have HF := Lib.hid ht
        clear ht
        go_wp2
        go_ret
        exact ⟨ret_bool HF.out.symm, HD⟩
  · have hb : ((p.length : Int) != (q.length : Int)) = true := by rw [bne_iff_ne]; omega
    have hne : (p == q) = false := by
      rw [beq_eq_false_iff_ne]
      intro e; exact hn (by rw [e])
    have HNE := Lib.hid hne
    clear hne
    go_enter Try.func19, Try.ntmps19
    go_wp2
    go_ret
    exact ⟨ret_bool HNE.out.symm, Drawn.refl _⟩


/-! ### The same, with lengths spelled as a caller has them -/
theorem twinR (A : Option Addr) (p : List UInt8) (n cap : Nat) (w : World) (hp : RB w A cap p) (hn : n = p.length) (hl : p.length ≤ 140737488355328) :
    Calls Try.prog 20 #[.slice A n cap] w fun e w' => ∃ A' c', e = .returned (.slice A' n c') ∧ NewB w w' (.slice A' n c') p := by
  subst hn; exact twin_calls A p cap w hp hl
theorem sameR (A B : Option Addr) (p q : List UInt8) (n m c d : Nat) (w : World) (hp : RB w A c p) (hq : RB w B d q) (hn : n = p.length) (hm : m = q.length) (b : Bool) (hb : (p == q) = b) :
    Calls Try.prog 19 #[.slice A n c, .slice B m d] w fun e w' => e = .returned (.bool b) ∧ Drawn w w' := by
  subst hn; subst hm; subst hb; exact same_calls A B p q c d w hp hq
theorem joinN (A B : Option Addr) (p q r : List UInt8) (n m k c d : Nat) (w : World) (hp : RB w A c p) (hq : RB w B d q) (hn : n = p.length) (hm : m = q.length) (hk : k = p.length + q.length) (hr : p ++ q = r) (hl : p.length + q.length ≤ 281474976710656) :
    Calls Try.prog 53 #[.slice A n c, .slice B m d] w fun e w' => ∃ A' c', e = .returned (.slice A' k c') ∧ NewB w w' (.slice A' k c') r := by
  subst hn; subst hm; subst hr; subst hk
  have := join_bytes_calls A B p q c d w hp hq hl
  simp only [List.length_append] at this
  exact this
theorem RB.pre {w : World} {A : Option Addr} {c : Nat} {p r : List UInt8} (h : RB w A c (p ++ r)) : RB w A c p := by
  have := h.take p.length
  rwa [List.take_left] at this
end Go.Proofs.Ytelecdncdaepnaa
