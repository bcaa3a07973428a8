/- The statement that up to four neighbouring bytes turned are told. -/
import Derived.Test.YtfkbdchpncadoaaCrcLaws3
namespace Go.Proofs.Ytfkbdchpncadoaa
open Go.RowKit
open CrcMath (W)

/-- the byte that is laid over the place i -/
def tellB (v : W) (i : Nat) : UInt8 := UInt8.ofNat (v.toNat / 2 ^ (8 * i))
def tell (p : List UInt8) (at_ : Int) (v : W) : Nat → List UInt8
  | 0 => p
  | k + 1 => if 0 ≤ at_ ∧ at_ + k < p.length then (tell p at_ v k).modify (at_.toNat + k) (· ^^^ tellB v k) else tell p at_ v k
theorem tell_length (p : List UInt8) (at_ : Int) (v : W) : ∀ k, (tell p at_ v k).length = p.length
  | 0 => rfl
  | k + 1 => by
    unfold tell
    split
    · rw [List.length_modify, tell_length p at_ v k]
    · exact tell_length p at_ v k
theorem tell_far (p : List UInt8) (at_ : Int) (v : W) (i : Nat) (hi : i < p.length) : ∀ k, i < at_.toNat ∨ at_.toNat + k ≤ i → (tell p at_ v k)[i]'(by rw [tell_length]; exact hi) = p[i]
  | 0, _ => rfl
  | k + 1, h => by
    have ih := tell_far p at_ v i hi k (by omega)
    unfold tell
    split
    · rw [List.getElem_modify, if_neg (by omega)]
      exact ih
    · exact ih
theorem tell_told (p : List UInt8) (at_ : Int) (v : W) : (p == tell p at_ v 4) = (uI (CrcMath.sum (p.map bW)) == uI (CrcMath.sum ((tell p at_ v 4).map bW))) := by
  by_cases h : p = tell p at_ v 4
  · rw [← h]; simp
  · have h1 : (p == tell p at_ v 4) = false := by rw [beq_eq_false_iff_ne]; exact h
    have h2 : (uI (CrcMath.sum (p.map bW)) == uI (CrcMath.sum ((tell p at_ v 4).map bW))) = false := by
      rw [beq_eq_false_iff_ne]
      intro e
      apply h
      have hlt : ∀ (l : List UInt8), ∀ v ∈ l.map bW, v.toNat < 256 := by
        intro l v hv
        rw [List.mem_map] at hv
        obtain ⟨b, _, rfl⟩ := hv
        exact bW_lt b
      have := CrcMath.sum_tells (p.map bW) ((tell p at_ v 4).map bW) at_.toNat (by simp [tell_length]) (hlt p) (hlt _) (fun i hi hj hc => by
        have hi' : i < p.length := by simpa using hi
        simp only [List.getElem_map]
        rw [tell_far p at_ v i hi' 4 hc]) (uI_inj.1 e)
      exact (List.map_inj_right (fun a b hab => by
        have h3 := congrArg BitVec.toNat hab
        have ha := a.toNat_lt
        have hb := b.toNat_lt
        unfold bW at h3
        rw [BitVec.toNat_ofNat, BitVec.toNat_ofNat] at h3
        exact UInt8.toNat_inj.1 (by omega))).1 this
    rw [h1, h2]
theorem tellB_eq (b : UInt8) (v : W) (k : Nat) : bits .xor .u8 (uB b) (uI v / 2 ^ (8 * k) % 256) = uB (b ^^^ tellB v k) := by
  rw [← bits_xor_u8]
  rw [show uI v / 2 ^ (8 * k) % 256 = uB (tellB v k) by unfold tellB; rw [uB_ofNat]; rfl]

structure TellRel (w : World) (g : Nat) (p : List UInt8) (at_ : Int) (v : W) (k : Nat) (wr : World) : Prop where
  own : OB wr w.heap.size 5 (.slice (some ⟨g, 0, none⟩) p.length p.length) (tell p at_ v k)
  below : Below w.heap.size w wr
theorem TellRel.next {w : World} {g : Nat} {p : List UInt8} {at_ : Int} {v : W} {k : Nat} {wr : World} (h : TellRel w g p at_ v k wr) (h0 : 0 ≤ at_) (h1 : at_ + k < p.length) :
    TellRel w g p at_ v (k + 1) (wr.setCell ⟨g, at_.toNat + k, none⟩ (.int .u8 (uB ((tell p at_ v k)[at_.toNat + k]'(by rw [tell_length]; omega) ^^^ tellB v k)))) := by
  obtain ⟨h2, h3⟩ := h.own.set (at_.toNat + k) ((tell p at_ v k)[at_.toNat + k]'(by rw [tell_length]; omega) ^^^ tellB v k)
  have e1 : tell p at_ v (k + 1) = (tell p at_ v k).set (at_.toNat + k) ((tell p at_ v k)[at_.toNat + k]'(by rw [tell_length]; omega) ^^^ tellB v k) := by
    rw [tell, if_pos ⟨h0, h1⟩]
    apply List.ext_getElem
    · simp
    · intro i g1 g2
      rw [List.getElem_modify, List.getElem_set]
      by_cases e : at_.toNat + k = i
      · subst e; rw [if_pos rfl]
      · rw [if_neg e, if_neg e]
  exact ⟨by rw [e1]; exact h2, h.below.setCell h.own.grown_eq.1 _⟩
theorem TellRel.skip {w : World} {g : Nat} {p : List UInt8} {at_ : Int} {v : W} {k : Nat} {wr : World} (h : TellRel w g p at_ v k wr) (hn : ¬ (0 ≤ at_ ∧ at_ + k < p.length)) : TellRel w g p at_ v (k + 1) wr := by
  have e1 : tell p at_ v (k + 1) = tell p at_ v k := by rw [tell, if_neg hn]
  exact ⟨by rw [e1]; exact h.own, h.below⟩
theorem TellRel.drawn {w : World} {g : Nat} {p : List UInt8} {at_ : Int} {v : W} {k : Nat} {wr : World} (h : TellRel w g p at_ v k wr) : TellRel w g p at_ v k wr.drew :=
  ⟨h.own.new (below_drew _ _), h.below.drew⟩

set_option maxHeartbeats 1000000 in
theorem crcTells_calls (A : Option Addr) (p : List UInt8) (cap : Nat) (at_ : Int) (h0 : -9223372036854775808 ≤ at_) (h1 : at_ ≤ 9223372036854775807) (v : W) (w : World) (hp : RB w A cap p) (hl : p.length ≤ 140737488355328) :
    Calls Try.prog 7 #[.slice A p.length cap, .int .i64 at_, .int .u32 (uI v)] w fun e w' => e = .returned (.bool true) ∧ Below w.heap.size w w' := by
  have htold := tell_told p at_ v
  have hvr := uI_range v
  have HT := Lib.hid htold
  clear htold
  go_enter Try.func7, Try.ntmps7
  go_wp2_with (first | (go_at_call 12; (with_reducible refine (awake_calls _).mono ?_); rintro e w1 ⟨rfl, HB⟩; replace hp := hp.new HB) | (go_at_call 14; (with_reducible refine (twin_exact A p cap _ hp hl).mono ?_); rintro e w2 ⟨rfl, hn2⟩; have HR : TellRel w1 w1.heap.size p at_ v 0 w2 := ⟨hn2.own, hn2.below⟩))
  go_loopw [8] (fun i wr => ∃ k : Nat, k ≤ 4 ∧ i = .int .i64 k ∧ TellRel w1 w1.heap.size p at_ v k wr) (fun i _ => 4 - (intOf i).toNat)
  case atStart => exact ⟨0, by omega, rfl, HR⟩
  case round =>
    clear HR
    obtain ⟨k, hk, rfl, HR⟩ := hrel
    by_cases hlt : k < 4
    · by_cases ha : 0 ≤ at_
      · by_cases hbig : at_ + k ≤ 9223372036854775807
        · by_cases hin : at_ + k < p.length
          · have hii : at_.toNat + k < (tell p at_ v k).length := by rw [tell_length]; omega
            obtain ⟨hc, hf⟩ := HR.own.cell (at_.toNat + k) hii
            have hx := tellB_eq (tell p at_ v k)[at_.toNat + k] v k
            have ht : (at_ + (k : Int)).toNat = at_.toNat + k := by omega
            have hw : IntKind.i64.wrap (at_ + (k : Int)) = at_ + k := IntWalk.i64_in _ (by omega)
            have hw8 : IntKind.i64.wrap (8 * (k : Int)) = 8 * k := IntWalk.i64_in _ (by omega)
            have ht8 : (8 * (k : Int)).toNat = 8 * k := by omega
            have i0 : 0 ≤ at_ + (k : Int) := by omega
            have HS := (HR.next ha hin).drawn
            have HSN := Lib.hid HS
            clear HS HR
            go_wp2
            go_region
            go_wp2
            go_roundw
            case rel => exact ⟨k + 1, by omega, by go_num, HSN.out⟩
            case measure => simp [intOf]; omega
          · have HS := HR.skip (v := v) (k := k) (by omega)
            have i0 : 0 ≤ at_ + (k : Int) := by omega
            go_wp2
            go_roundw
            case rel => exact ⟨k + 1, by omega, by go_num, HS⟩
            case measure => simp [intOf]; omega
        · have HS := HR.skip (v := v) (k := k) (by omega)
          have hw : wrap64 (at_ + (k : Int)) = at_ + k - 18446744073709551616 := by unfold wrap64; omega
          have hb : decide (at_ ≤ wrap64 (at_ + (k : Int))) = false := by rw [hw]; simp; omega
          have HW := Lib.hid hw
          clear hw
          go_wp2
          go_roundw
          case rel => exact ⟨k + 1, by omega, by go_num, HS⟩
          case measure => simp [intOf]; omega
      · have HS := HR.skip (v := v) (k := k) (by omega)
        go_wp2
        go_roundw
        case rel => exact ⟨k + 1, by omega, by go_num, HS⟩
        case measure => simp [intOf]; omega
    · obtain rfl : k = 4 := by omega
      have hq := HR.own.reads
      have hp2 := hp.new HR.below
      have hlen := tell_length p at_ v 4
      have HBE := below_new HB HR.below
      have C1 := Lib.hid fun wx (h1 : RB wx A cap p) (h2 : RB wx (some ⟨w1.heap.size, 0, none⟩) p.length (tell p at_ v 4)) => sameR A (some ⟨w1.heap.size, 0, none⟩) p (tell p at_ v 4) p.length p.length cap p.length wx h1 h2 rfl hlen.symm _ HT.out
      have C2 := Lib.hid fun wx (h1 : RB wx A cap p) => sumR A p p.length cap wx h1 rfl _ rfl
      have C3 := Lib.hid fun wx (h2 : RB wx (some ⟨w1.heap.size, 0, none⟩) p.length (tell p at_ v 4)) => sumR (some ⟨w1.heap.size, 0, none⟩) (tell p at_ v 4) p.length p.length wx h2 hlen.symm _ rfl
      clear hlen HR
      go_wp2_with (first | (go_at_call 21; (with_reducible refine (C1.out _ hp2 hq).mono ?_); rintro e w6 ⟨rfl, hd6⟩; replace HBE := HBE.trans (hd6.below _); replace hp2 := hp2.new (hd6.below _); replace hq := hq.new (hd6.below _)) | (go_at_call 16; (with_reducible refine (C2.out _ hp2).mono ?_); rintro e w' ⟨rfl, rfl⟩) | (go_at_call 16; (with_reducible refine (C3.out _ hq).mono ?_); rintro e w' ⟨rfl, rfl⟩))
      go_ret
      exact ⟨ret_bool (by simp), HBE⟩
end Go.Proofs.Ytfkbdchpncadoaa
