/- The statement on three texts laid over one another. -/
import Derived.Test.YtfkbdchpncadoaaCrcLaws2
namespace Go.Proofs.Ytfkbdchpncadoaa
open Go.RowKit
open CrcMath (W)
attribute [local go_sem] bits_xor_uI

theorem make_any (n : Nat) (h : n ≤ 281474976710656) : ∃ Z : Array Value, Z.toList = encB (List.replicate n 0) ∧ ∀ w : World, (Instr.makeSlice 23 (.int .i64 n) (.int .i64 n)).run Try.prog w = .ok (.slice (some ⟨w.heap.size, 0, none⟩) n n) (w.alloc (.cells Z 5)) := by
  obtain ⟨i, hi, hz, hs, hb⟩ := info_parts bt.info
  refine ⟨madeCells (Value.int .u8 0).cells (n * 1), ?_, fun w => ?_⟩
  · rw [Nat.mul_one]
    apply List.ext_getElem
    · simp [madeCells, encB]
    · intro j h1 h2
      simp [madeCells, encB, Value.cells, uB, Nat.mod_one]
  · have := run_make (P := Try.prog) w 23 5 i (.int .u8 0) bt.sl hi hz .i64 .i64 n n (by omega) (Int.le_refl _) (by rw [hb]; omega) (by omega)
    rw [hs] at this
    simpa using this
/-- a new row of bytes -/
theorem OB.newRow (w : World) (base : Nat) (hb : base ≤ w.heap.size) (e : Nat) (Z : Array Value) (p : List UInt8) (hZ : Z.toList = encB p) (n : Nat) (hn : n = p.length) (hs : n ≤ 9223372036854775807) : OB (w.alloc (.cells Z e)) base e (.slice (some ⟨w.heap.size, 0, none⟩) n n) p := by
  subst hn
  have hsz : Z.size = p.length := by rw [← Array.length_toList, hZ, encB_length]
  refine ⟨by rw [encB_length, Nat.mul_one], .inr ⟨w.heap.size, p.length, Z, rfl, hb, heap_alloc_new w _, Nat.le_refl _, by unfold maxLen; omega, by omega, ?_⟩⟩
  rw [hZ, List.take_of_length_le (by rw [encB_length]; omega)]

theorem bits_xor_u8 (a b : UInt8) : bits .xor .u8 (uB a) (uB b) = uB (a ^^^ b) := by
  show IntKind.u8.wrap ((BitVec.ofInt 8 (uB a) ^^^ BitVec.ofInt 8 (uB b)).toNat : Int) = _
  have h : ∀ c : UInt8, BitVec.ofInt 8 (uB c) = c.toBitVec := by
    intro c
    apply BitVec.eq_of_toNat_eq
    unfold uB
    rw [BitVec.ofInt_natCast]
    simp
  rw [h, h, ← UInt8.toBitVec_xor]
  have := (a ^^^ b).toNat_lt
  rw [IntKind.wrap_u8]
  show ((a ^^^ b).toNat : Int) % 256 = uB (a ^^^ b)
  unfold uB
  omega
theorem bW_xor (a b : UInt8) : bW (a ^^^ b) = bW a ^^^ bW b := by
  apply BitVec.eq_of_toNat_eq
  have h : ∀ c : UInt8, (bW c).toNat = c.toNat := by
    intro c
    have := c.toNat_lt
    unfold bW
    rw [BitVec.toNat_ofNat]; omega
  rw [BitVec.toNat_xor, h, h, h, UInt8.toNat_xor]

def xorL (p q : List UInt8) : List UInt8 := List.zipWith (· ^^^ ·) p q
theorem xorL_map (p q : List UInt8) : (xorL p q).map bW = CrcMath.lay (p.map bW) (q.map bW) := by
  unfold xorL CrcMath.lay
  induction p generalizing q with
  | nil => simp
  | cons a p ih =>
    cases q with
    | nil => simp
    | cons b q => simp [bW_xor, ih]
/-- the first k places done -/
def xorTo (p q : List UInt8) (n k : Nat) : List UInt8 := (xorL p q).take k ++ List.replicate (n - k) 0
theorem xorTo_length (p q : List UInt8) (n k : Nat) (hk : k ≤ n) (hp : n ≤ p.length) (hq : n ≤ q.length) : (xorTo p q n k).length = n := by simp [xorTo, xorL]; omega
theorem xorTo_succ (p q : List UInt8) (n k : Nat) (hk : k < n) (hp : n ≤ p.length) (hq : n ≤ q.length) : (xorTo p q n k).set k (p[k] ^^^ q[k]) = xorTo p q n (k + 1) := by
  have hz : k < (xorL p q).length := by simp [xorL]; omega
  have e1 : (xorL p q).take (k + 1) = (xorL p q).take k ++ [p[k] ^^^ q[k]] := by
    rw [List.take_succ_eq_append_getElem hz]; simp [xorL]
  have hl : ((xorL p q).take k).length = k := by rw [List.length_take]; omega
  unfold xorTo
  rw [e1, List.set_append_right _ _ (by omega), hl, Nat.sub_self, show n - k = (n - (k + 1)) + 1 by omega, List.replicate_succ]
  simp

structure LinRel (w : World) (gx gz n : Nat) (p q : List UInt8) (k : Nat) (wr : World) : Prop where
  x : OB wr w.heap.size 5 (.slice (some ⟨gx, 0, none⟩) n n) (xorTo p q n k)
  z : OB wr w.heap.size 5 (.slice (some ⟨gz, 0, none⟩) n n) (List.replicate n 0)
  ne : gx ≠ gz
  below : Below w.heap.size w wr
theorem LinRel.drew {w : World} {gx gz n : Nat} {p q : List UInt8} {k : Nat} {wr : World} (h : LinRel w gx gz n p q k wr) (m : Nat) : LinRel w gx gz n p q k (wr.drewN m) :=
  ⟨h.x.new ((⟨⟨m, rfl⟩⟩ : Drawn wr (wr.drewN m)).below _), h.z.new ((⟨⟨m, rfl⟩⟩ : Drawn wr (wr.drewN m)).below _), h.ne, h.below.trans ((⟨⟨m, rfl⟩⟩ : Drawn wr (wr.drewN m)).below _)⟩
theorem LinRel.next {w : World} {gx gz n : Nat} {p q : List UInt8} {k : Nat} {wr : World} (h : LinRel w gx gz n p q k wr) (hk : k < n) (hp : n ≤ p.length) (hq : n ≤ q.length) :
    LinRel w gx gz n p q (k + 1) (wr.setCell ⟨gx, k, none⟩ (.int .u8 (uB (p[k] ^^^ q[k])))) := by
  obtain ⟨h1, h2⟩ := h.x.set k (p[k] ^^^ q[k])
  rw [xorTo_succ p q n k hk hp hq] at h1
  refine ⟨h1, h.z.keep h2 (.inr ?_), h.ne, h.below.setCell h.x.grown_eq.1 _⟩
  intro e
  exact h.ne (Option.some.inj e).symm


set_option maxHeartbeats 1000000 in
theorem crcLinear_p (A : Option Addr) (p : List UInt8) (cp : Nat) (B : Option Addr) (q : List UInt8) (cq : Nat) (w : World) (hp : RB w A cp p) (hq : RB w B cq q) (hl : p.length ≤ 140737488355328) (hl2 : q.length ≤ 140737488355328) (hle : p.length ≤ q.length) :
    Calls Try.prog 8 #[.slice A p.length cp, .slice B q.length cq] w fun e w' => e = .returned (.bool true) ∧ Below w.heap.size w w' := by
  have hnp : p.length ≤ p.length := by omega
  have hnq : p.length ≤ q.length := by omega
  have hsum : CrcMath.sum ((p.take p.length).map bW) ^^^ CrcMath.sum ((q.take p.length).map bW) ^^^ CrcMath.sum ((xorTo p q p.length p.length).map bW) = CrcMath.sum ((List.replicate p.length 0).map bW) := by
    have hlen : (p.take p.length).length = (q.take p.length).length := by simp; omega
    have h1 := CrcMath.sum_linear ((p.take p.length).map bW) ((q.take p.length).map bW) (by simpa using hlen)
    rw [← xorL_map] at h1
    have h2 : xorTo p q p.length p.length = xorL (p.take p.length) (q.take p.length) := by
      unfold xorTo xorL
      rw [Nat.sub_self, List.replicate_zero, List.append_nil, List.take_zipWith]
    rw [h2, h1]
    congr 1
    apply List.ext_getElem
    · simp <;> omega
    · intro i g1 g2
      simp; rfl
  obtain ⟨Z, hZ, hmk⟩ := make_any p.length (by omega)
  have HZ := Lib.hid hZ
  have HSUM := Lib.hid hsum
  clear hZ hsum
  have hsp := hp.small
  have hsq := hq.small
  go_enter Try.func8, Try.ntmps8
  go_wp2_with (first | (go_at_call 12; (with_reducible refine (awake_calls _).mono ?_); rintro e w1 ⟨rfl, HB⟩; replace hp := hp.new HB; replace hq := hq.new HB))
  have ha := OB.newRow w1.drew w.heap.size HB.size 5 Z (List.replicate p.length 0) HZ.out p.length (by simp) (by omega)
  have hb := OB.newRow (w1.drew.alloc (.cells Z 5)) w.heap.size (by have := HB.size; simp; omega) 5 Z (List.replicate p.length 0) HZ.out p.length (by simp) (by omega)
  have HA := Lib.hid (ha.alloc (.cells Z 5))
  have HB2 := Lib.hid hb
  have HW : Below w1.heap.size w1 ((w1.alloc (.cells Z 5)).alloc (.cells Z 5)).drew := ((Below.refl _ _).drew.alloc (Nat.le_refl _) _).alloc (by simp) _
  have HN := below_new HB HW
  have e0 : xorTo p q p.length 0 = List.replicate p.length 0 := by simp [xorTo]
  have hx1 := HA.out
  have hz1 := HB2.out
  rw [show (w1.drew.alloc (.cells Z 5)).heap.size = w1.heap.size + 1 by simp] at hz1
  rw [show w1.drew.heap.size = w1.heap.size from rfl] at hx1
  have HR1 : LinRel w w1.heap.size (w1.heap.size + 1) p.length p q 0 ((w1.alloc (.cells Z 5)).alloc (.cells Z 5)).drew := ⟨by rw [e0]; exact hx1, hz1, by omega, HN⟩
  have HR2 : LinRel w (w1.heap.size + 1) w1.heap.size p.length p q 0 ((w1.alloc (.cells Z 5)).alloc (.cells Z 5)).drew := ⟨by rw [e0]; exact hz1, hx1, by omega, HN⟩
  have hpp := Lib.hid hp
  have hqq := Lib.hid hq
  have hpo := hp.old
  have hqo := hq.old
  clear ha hb e0 hx1 hz1 HA HB2 HN hp hq
  go_region
  · clear HR2
    clear hmk
    generalize ((w1.alloc (Obj.cells Z 5)).alloc (Obj.cells Z 5)).drew = W1 at *
    clear HZ
    go_wp2
    go_loopw [22] (fun i wr => ∃ k : Nat, k ≤ p.length ∧ i = .int .i64 k ∧ LinRel w w1.heap.size (w1.heap.size + 1) p.length p q k wr ∧ Below w1.heap.size w1 wr) (fun i _ => p.length - (intOf i).toNat)
    case atStart => exact ⟨0, by omega, rfl, HR1, HW⟩
    case round =>
      clear HR1 HW
      obtain ⟨k, hk, rfl, HR, HW⟩ := hrel
      by_cases hlt : k < p.length
      · have hkp : k < p.length := by omega
        have hkq : k < q.length := by omega
        obtain ⟨a, rfl, hc1⟩ := (hpp.out.below HW hpo).at_ k hkp
        obtain ⟨b, rfl, hc2⟩ := (hqq.out.below HW hqo).at_ k hkq
        have hlx : k < (xorTo p q p.length k).length := by rw [xorTo_length _ _ _ _ (by omega) (by omega) (by omega)]; exact hlt
        obtain ⟨hc3, hf3⟩ := HR.x.cell k hlx
        have i0 : (0 : Int) ≤ (k : Int) := by omega
        have i1 : (k : Int) < (p.length : Int) := by omega
        have i2 : (k : Int) < (q.length : Int) := by omega
        have hxr := bits_xor_u8 p[k] q[k]
        go_wp2
        go_region
        have HR3 := (HR.next hlt (by omega) (by omega)).drew 1
        have HW3 : Below w1.heap.size w1 (wr.setCell ⟨w1.heap.size, k, none⟩ (.int .u8 (uB (p[k] ^^^ q[k])))).drew := (HW.setCell (by simp) _).drew
        clear HR hc3 hf3 hlx
        go_wp2
        go_roundw
        case rel => exact ⟨k + 1, by omega, by go_num, HR3, HW3⟩
        case measure => simp [intOf]; omega
      · have hk' : k = p.length := by omega
        have hpx := (hpp.out.below HW hpo).take p.length
        have hqx := (hqq.out.below HW hqo).take p.length
        have HX := HR.x
        rw [hk'] at HX
        have hxx := HX.reads
        have hzz := HR.z.reads
        have HBE := HR.below
        have hxl := xorTo_length p q p.length p.length (Nat.le_refl _) (by omega) (by omega)
        have hcp := hpp.out.len
        have hcq := hqq.out.len
        have hp63 := hpp.out.cap
        have hq63 := hqq.out.cap
        have hs := HSUM.out
        generalize hs1 : CrcMath.sum ((p.take p.length).map bW) = s1 at hs
        generalize hs2 : CrcMath.sum ((q.take p.length).map bW) = s2 at hs
        generalize hs3 : CrcMath.sum ((xorTo p q p.length p.length).map bW) = s3 at hs
        generalize hs4 : CrcMath.sum ((List.replicate p.length 0).map bW) = s4 at hs
        have hb : (uI (s1 ^^^ s2 ^^^ s3) == uI s4) = true := by rw [hs]; simp
        have C1 := Lib.hid fun wx (h : RB wx A cp (p.take p.length)) => sumR A (p.take p.length) p.length cp wx h (by simp <;> omega) s1 hs1
        have C2 := Lib.hid fun wx (h : RB wx B cq (q.take p.length)) => sumR B (q.take p.length) p.length cq wx h (by simp <;> omega) s2 hs2
        have C3 := Lib.hid fun wx (h : RB wx (some ⟨w1.heap.size, 0, none⟩) p.length (xorTo p q p.length p.length)) => sumR (some ⟨w1.heap.size, 0, none⟩) (xorTo p q p.length p.length) p.length p.length wx h (by omega) s3 hs3
        have C4 := Lib.hid fun wx (h : RB wx (some ⟨(w1.heap.size + 1), 0, none⟩) p.length (List.replicate p.length 0)) => sumR (some ⟨(w1.heap.size + 1), 0, none⟩) (List.replicate p.length 0) p.length p.length wx h (by simp) s4 hs4
        clear hs hs1 hs2 hs3 hs4 hk' HX HR hxl
        go_wp2
        go_quiet ((go_at_call 16; first | exact Calls.quiet_of_same ((C1.out _ (hpx.drawn _)).mono fun _ _ h => ⟨h.1, h.2.symm⟩) | exact Calls.quiet_of_same ((C2.out _ (hqx.drawn _)).mono fun _ _ h => ⟨h.1, h.2.symm⟩) | exact Calls.quiet_of_same ((C3.out _ (hxx.drawn _)).mono fun _ _ h => ⟨h.1, h.2.symm⟩) | exact Calls.quiet_of_same ((C4.out _ (hzz.drawn _)).mono fun _ _ h => ⟨h.1, h.2.symm⟩)))
        go_wp2
        go_ret
        exact ⟨rfl, HBE.trans ((⟨⟨_, rfl⟩⟩ : Drawn wr (wr.drewN _)).below _)⟩
  · clear HR1
    clear hmk
    generalize ((w1.alloc (Obj.cells Z 5)).alloc (Obj.cells Z 5)).drew = W1 at *
    clear HZ
    have HR1 := HR2
    clear HR2
    go_wp2
    go_loopw [22] (fun i wr => ∃ k : Nat, k ≤ p.length ∧ i = .int .i64 k ∧ LinRel w (w1.heap.size + 1) w1.heap.size p.length p q k wr ∧ Below w1.heap.size w1 wr) (fun i _ => p.length - (intOf i).toNat)
    case atStart => exact ⟨0, by omega, rfl, HR1, HW⟩
    case round =>
      clear HR1 HW
      obtain ⟨k, hk, rfl, HR, HW⟩ := hrel
      by_cases hlt : k < p.length
      · have hkp : k < p.length := by omega
        have hkq : k < q.length := by omega
        obtain ⟨a, rfl, hc1⟩ := (hpp.out.below HW hpo).at_ k hkp
        obtain ⟨b, rfl, hc2⟩ := (hqq.out.below HW hqo).at_ k hkq
        have hlx : k < (xorTo p q p.length k).length := by rw [xorTo_length _ _ _ _ (by omega) (by omega) (by omega)]; exact hlt
        obtain ⟨hc3, hf3⟩ := HR.x.cell k hlx
        have i0 : (0 : Int) ≤ (k : Int) := by omega
        have i1 : (k : Int) < (p.length : Int) := by omega
        have i2 : (k : Int) < (q.length : Int) := by omega
        have hxr := bits_xor_u8 p[k] q[k]
        go_wp2
        go_region
        have HR3 := (HR.next hlt (by omega) (by omega)).drew 1
        have HW3 : Below w1.heap.size w1 (wr.setCell ⟨(w1.heap.size + 1), k, none⟩ (.int .u8 (uB (p[k] ^^^ q[k])))).drew := (HW.setCell (by simp) _).drew
        clear HR hc3 hf3 hlx
        go_wp2
        go_roundw
        case rel => exact ⟨k + 1, by omega, by go_num, HR3, HW3⟩
        case measure => simp [intOf]; omega
      · have hk' : k = p.length := by omega
        have hpx := (hpp.out.below HW hpo).take p.length
        have hqx := (hqq.out.below HW hqo).take p.length
        have HX := HR.x
        rw [hk'] at HX
        have hxx := HX.reads
        have hzz := HR.z.reads
        have HBE := HR.below
        have hxl := xorTo_length p q p.length p.length (Nat.le_refl _) (by omega) (by omega)
        have hcp := hpp.out.len
        have hcq := hqq.out.len
        have hp63 := hpp.out.cap
        have hq63 := hqq.out.cap
        have hs := HSUM.out
        generalize hs1 : CrcMath.sum ((p.take p.length).map bW) = s1 at hs
        generalize hs2 : CrcMath.sum ((q.take p.length).map bW) = s2 at hs
        generalize hs3 : CrcMath.sum ((xorTo p q p.length p.length).map bW) = s3 at hs
        generalize hs4 : CrcMath.sum ((List.replicate p.length 0).map bW) = s4 at hs
        have hb : (uI (s1 ^^^ s2 ^^^ s3) == uI s4) = true := by rw [hs]; simp
        have C1 := Lib.hid fun wx (h : RB wx A cp (p.take p.length)) => sumR A (p.take p.length) p.length cp wx h (by simp <;> omega) s1 hs1
        have C2 := Lib.hid fun wx (h : RB wx B cq (q.take p.length)) => sumR B (q.take p.length) p.length cq wx h (by simp <;> omega) s2 hs2
        have C3 := Lib.hid fun wx (h : RB wx (some ⟨(w1.heap.size + 1), 0, none⟩) p.length (xorTo p q p.length p.length)) => sumR (some ⟨(w1.heap.size + 1), 0, none⟩) (xorTo p q p.length p.length) p.length p.length wx h (by omega) s3 hs3
        have C4 := Lib.hid fun wx (h : RB wx (some ⟨w1.heap.size, 0, none⟩) p.length (List.replicate p.length 0)) => sumR (some ⟨w1.heap.size, 0, none⟩) (List.replicate p.length 0) p.length p.length wx h (by simp) s4 hs4
        clear hs hs1 hs2 hs3 hs4 hk' HX HR hxl
        go_wp2
        go_quiet ((go_at_call 16; first | exact Calls.quiet_of_same ((C1.out _ (hpx.drawn _)).mono fun _ _ h => ⟨h.1, h.2.symm⟩) | exact Calls.quiet_of_same ((C2.out _ (hqx.drawn _)).mono fun _ _ h => ⟨h.1, h.2.symm⟩) | exact Calls.quiet_of_same ((C3.out _ (hxx.drawn _)).mono fun _ _ h => ⟨h.1, h.2.symm⟩) | exact Calls.quiet_of_same ((C4.out _ (hzz.drawn _)).mono fun _ _ h => ⟨h.1, h.2.symm⟩)))
        go_wp2
        go_ret
        exact ⟨rfl, HBE.trans ((⟨⟨_, rfl⟩⟩ : Drawn wr (wr.drewN _)).below _)⟩

set_option maxHeartbeats 1000000 in
theorem crcLinear_q (A : Option Addr) (p : List UInt8) (cp : Nat) (B : Option Addr) (q : List UInt8) (cq : Nat) (w : World) (hp : RB w A cp p) (hq : RB w B cq q) (hl : p.length ≤ 140737488355328) (hl2 : q.length ≤ 140737488355328) (hle : q.length < p.length) :
    Calls Try.prog 8 #[.slice A p.length cp, .slice B q.length cq] w fun e w' => e = .returned (.bool true) ∧ Below w.heap.size w w' := by
  have hnp : q.length ≤ p.length := by omega
  have hnq : q.length ≤ q.length := by omega
  have hsum : CrcMath.sum ((p.take q.length).map bW) ^^^ CrcMath.sum ((q.take q.length).map bW) ^^^ CrcMath.sum ((xorTo p q q.length q.length).map bW) = CrcMath.sum ((List.replicate q.length 0).map bW) := by
    have hlen : (p.take q.length).length = (q.take q.length).length := by simp; omega
    have h1 := CrcMath.sum_linear ((p.take q.length).map bW) ((q.take q.length).map bW) (by simpa using hlen)
    rw [← xorL_map] at h1
    have h2 : xorTo p q q.length q.length = xorL (p.take q.length) (q.take q.length) := by
      unfold xorTo xorL
      rw [Nat.sub_self, List.replicate_zero, List.append_nil, List.take_zipWith]
    rw [h2, h1]
    congr 1
    apply List.ext_getElem
    · simp <;> omega
    · intro i g1 g2
      simp; rfl
  obtain ⟨Z, hZ, hmk⟩ := make_any q.length (by omega)
  have HZ := Lib.hid hZ
  have HSUM := Lib.hid hsum
  clear hZ hsum
  have hsp := hp.small
  have hsq := hq.small
  go_enter Try.func8, Try.ntmps8
  go_wp2_with (first | (go_at_call 12; (with_reducible refine (awake_calls _).mono ?_); rintro e w1 ⟨rfl, HB⟩; replace hp := hp.new HB; replace hq := hq.new HB))
  have ha := OB.newRow w1.drew w.heap.size HB.size 5 Z (List.replicate q.length 0) HZ.out q.length (by simp) (by omega)
  have hb := OB.newRow (w1.drew.alloc (.cells Z 5)) w.heap.size (by have := HB.size; simp; omega) 5 Z (List.replicate q.length 0) HZ.out q.length (by simp) (by omega)
  have HA := Lib.hid (ha.alloc (.cells Z 5))
  have HB2 := Lib.hid hb
  have HW : Below w1.heap.size w1 ((w1.alloc (.cells Z 5)).alloc (.cells Z 5)).drew := ((Below.refl _ _).drew.alloc (Nat.le_refl _) _).alloc (by simp) _
  have HN := below_new HB HW
  have e0 : xorTo p q q.length 0 = List.replicate q.length 0 := by simp [xorTo]
  have hx1 := HA.out
  have hz1 := HB2.out
  rw [show (w1.drew.alloc (.cells Z 5)).heap.size = w1.heap.size + 1 by simp] at hz1
  rw [show w1.drew.heap.size = w1.heap.size from rfl] at hx1
  have HR1 : LinRel w w1.heap.size (w1.heap.size + 1) q.length p q 0 ((w1.alloc (.cells Z 5)).alloc (.cells Z 5)).drew := ⟨by rw [e0]; exact hx1, hz1, by omega, HN⟩
  have HR2 : LinRel w (w1.heap.size + 1) w1.heap.size q.length p q 0 ((w1.alloc (.cells Z 5)).alloc (.cells Z 5)).drew := ⟨by rw [e0]; exact hz1, hx1, by omega, HN⟩
  have hpp := Lib.hid hp
  have hqq := Lib.hid hq
  have hpo := hp.old
  have hqo := hq.old
  clear ha hb e0 hx1 hz1 HA HB2 HN hp hq
  go_region
  · clear HR2
    clear hmk
    generalize ((w1.alloc (Obj.cells Z 5)).alloc (Obj.cells Z 5)).drew = W1 at *
    clear HZ
    go_wp2
    go_loopw [22] (fun i wr => ∃ k : Nat, k ≤ q.length ∧ i = .int .i64 k ∧ LinRel w w1.heap.size (w1.heap.size + 1) q.length p q k wr ∧ Below w1.heap.size w1 wr) (fun i _ => q.length - (intOf i).toNat)
    case atStart => exact ⟨0, by omega, rfl, HR1, HW⟩
    case round =>
      clear HR1 HW
      obtain ⟨k, hk, rfl, HR, HW⟩ := hrel
      by_cases hlt : k < q.length
      · have hkp : k < p.length := by omega
        have hkq : k < q.length := by omega
        obtain ⟨a, rfl, hc1⟩ := (hpp.out.below HW hpo).at_ k hkp
        obtain ⟨b, rfl, hc2⟩ := (hqq.out.below HW hqo).at_ k hkq
        have hlx : k < (xorTo p q q.length k).length := by rw [xorTo_length _ _ _ _ (by omega) (by omega) (by omega)]; exact hlt
        obtain ⟨hc3, hf3⟩ := HR.x.cell k hlx
        have i0 : (0 : Int) ≤ (k : Int) := by omega
        have i1 : (k : Int) < (p.length : Int) := by omega
        have i2 : (k : Int) < (q.length : Int) := by omega
        have hxr := bits_xor_u8 p[k] q[k]
        go_wp2
        go_region
        have HR3 := (HR.next hlt (by omega) (by omega)).drew 1
        have HW3 : Below w1.heap.size w1 (wr.setCell ⟨w1.heap.size, k, none⟩ (.int .u8 (uB (p[k] ^^^ q[k])))).drew := (HW.setCell (by simp) _).drew
        clear HR hc3 hf3 hlx
        go_wp2
        go_roundw
        case rel => exact ⟨k + 1, by omega, by go_num, HR3, HW3⟩
        case measure => simp [intOf]; omega
      · have hk' : k = q.length := by omega
        have hpx := (hpp.out.below HW hpo).take q.length
        have hqx := (hqq.out.below HW hqo).take q.length
        have HX := HR.x
        rw [hk'] at HX
        have hxx := HX.reads
        have hzz := HR.z.reads
        have HBE := HR.below
        have hxl := xorTo_length p q q.length q.length (Nat.le_refl _) (by omega) (by omega)
        have hcp := hpp.out.len
        have hcq := hqq.out.len
        have hp63 := hpp.out.cap
        have hq63 := hqq.out.cap
        have hs := HSUM.out
        generalize hs1 : CrcMath.sum ((p.take q.length).map bW) = s1 at hs
        generalize hs2 : CrcMath.sum ((q.take q.length).map bW) = s2 at hs
        generalize hs3 : CrcMath.sum ((xorTo p q q.length q.length).map bW) = s3 at hs
        generalize hs4 : CrcMath.sum ((List.replicate q.length 0).map bW) = s4 at hs
        have hb : (uI (s1 ^^^ s2 ^^^ s3) == uI s4) = true := by rw [hs]; simp
        have C1 := Lib.hid fun wx (h : RB wx A cp (p.take q.length)) => sumR A (p.take q.length) q.length cp wx h (by simp <;> omega) s1 hs1
        have C2 := Lib.hid fun wx (h : RB wx B cq (q.take q.length)) => sumR B (q.take q.length) q.length cq wx h (by simp <;> omega) s2 hs2
        have C3 := Lib.hid fun wx (h : RB wx (some ⟨w1.heap.size, 0, none⟩) q.length (xorTo p q q.length q.length)) => sumR (some ⟨w1.heap.size, 0, none⟩) (xorTo p q q.length q.length) q.length q.length wx h (by omega) s3 hs3
        have C4 := Lib.hid fun wx (h : RB wx (some ⟨(w1.heap.size + 1), 0, none⟩) q.length (List.replicate q.length 0)) => sumR (some ⟨(w1.heap.size + 1), 0, none⟩) (List.replicate q.length 0) q.length q.length wx h (by simp) s4 hs4
        clear hs hs1 hs2 hs3 hs4 hk' HX HR hxl
        go_wp2
        go_quiet ((go_at_call 16; first | exact Calls.quiet_of_same ((C1.out _ (hpx.drawn _)).mono fun _ _ h => ⟨h.1, h.2.symm⟩) | exact Calls.quiet_of_same ((C2.out _ (hqx.drawn _)).mono fun _ _ h => ⟨h.1, h.2.symm⟩) | exact Calls.quiet_of_same ((C3.out _ (hxx.drawn _)).mono fun _ _ h => ⟨h.1, h.2.symm⟩) | exact Calls.quiet_of_same ((C4.out _ (hzz.drawn _)).mono fun _ _ h => ⟨h.1, h.2.symm⟩)))
        go_wp2
        go_ret
        exact ⟨rfl, HBE.trans ((⟨⟨_, rfl⟩⟩ : Drawn wr (wr.drewN _)).below _)⟩
  · clear HR1
    clear hmk
    generalize ((w1.alloc (Obj.cells Z 5)).alloc (Obj.cells Z 5)).drew = W1 at *
    clear HZ
    have HR1 := HR2
    clear HR2
    go_wp2
    go_loopw [22] (fun i wr => ∃ k : Nat, k ≤ q.length ∧ i = .int .i64 k ∧ LinRel w (w1.heap.size + 1) w1.heap.size q.length p q k wr ∧ Below w1.heap.size w1 wr) (fun i _ => q.length - (intOf i).toNat)
    case atStart => exact ⟨0, by omega, rfl, HR1, HW⟩
    case round =>
      clear HR1 HW
      obtain ⟨k, hk, rfl, HR, HW⟩ := hrel
      by_cases hlt : k < q.length
      · have hkp : k < p.length := by omega
        have hkq : k < q.length := by omega
        obtain ⟨a, rfl, hc1⟩ := (hpp.out.below HW hpo).at_ k hkp
        obtain ⟨b, rfl, hc2⟩ := (hqq.out.below HW hqo).at_ k hkq
        have hlx : k < (xorTo p q q.length k).length := by rw [xorTo_length _ _ _ _ (by omega) (by omega) (by omega)]; exact hlt
        obtain ⟨hc3, hf3⟩ := HR.x.cell k hlx
        have i0 : (0 : Int) ≤ (k : Int) := by omega
        have i1 : (k : Int) < (p.length : Int) := by omega
        have i2 : (k : Int) < (q.length : Int) := by omega
        have hxr := bits_xor_u8 p[k] q[k]
        go_wp2
        go_region
        have HR3 := (HR.next hlt (by omega) (by omega)).drew 1
        have HW3 : Below w1.heap.size w1 (wr.setCell ⟨(w1.heap.size + 1), k, none⟩ (.int .u8 (uB (p[k] ^^^ q[k])))).drew := (HW.setCell (by simp) _).drew
        clear HR hc3 hf3 hlx
        go_wp2
        go_roundw
        case rel => exact ⟨k + 1, by omega, by go_num, HR3, HW3⟩
        case measure => simp [intOf]; omega
      · have hk' : k = q.length := by omega
        have hpx := (hpp.out.below HW hpo).take q.length
        have hqx := (hqq.out.below HW hqo).take q.length
        have HX := HR.x
        rw [hk'] at HX
        have hxx := HX.reads
        have hzz := HR.z.reads
        have HBE := HR.below
        have hxl := xorTo_length p q q.length q.length (Nat.le_refl _) (by omega) (by omega)
        have hcp := hpp.out.len
        have hcq := hqq.out.len
        have hp63 := hpp.out.cap
        have hq63 := hqq.out.cap
        have hs := HSUM.out
        generalize hs1 : CrcMath.sum ((p.take q.length).map bW) = s1 at hs
        generalize hs2 : CrcMath.sum ((q.take q.length).map bW) = s2 at hs
        generalize hs3 : CrcMath.sum ((xorTo p q q.length q.length).map bW) = s3 at hs
        generalize hs4 : CrcMath.sum ((List.replicate q.length 0).map bW) = s4 at hs
        have hb : (uI (s1 ^^^ s2 ^^^ s3) == uI s4) = true := by rw [hs]; simp
        have C1 := Lib.hid fun wx (h : RB wx A cp (p.take q.length)) => sumR A (p.take q.length) q.length cp wx h (by simp <;> omega) s1 hs1
        have C2 := Lib.hid fun wx (h : RB wx B cq (q.take q.length)) => sumR B (q.take q.length) q.length cq wx h (by simp <;> omega) s2 hs2
        have C3 := Lib.hid fun wx (h : RB wx (some ⟨(w1.heap.size + 1), 0, none⟩) q.length (xorTo p q q.length q.length)) => sumR (some ⟨(w1.heap.size + 1), 0, none⟩) (xorTo p q q.length q.length) q.length q.length wx h (by omega) s3 hs3
        have C4 := Lib.hid fun wx (h : RB wx (some ⟨w1.heap.size, 0, none⟩) q.length (List.replicate q.length 0)) => sumR (some ⟨w1.heap.size, 0, none⟩) (List.replicate q.length 0) q.length q.length wx h (by simp) s4 hs4
        clear hs hs1 hs2 hs3 hs4 hk' HX HR hxl
        go_wp2
        go_quiet ((go_at_call 16; first | exact Calls.quiet_of_same ((C1.out _ (hpx.drawn _)).mono fun _ _ h => ⟨h.1, h.2.symm⟩) | exact Calls.quiet_of_same ((C2.out _ (hqx.drawn _)).mono fun _ _ h => ⟨h.1, h.2.symm⟩) | exact Calls.quiet_of_same ((C3.out _ (hxx.drawn _)).mono fun _ _ h => ⟨h.1, h.2.symm⟩) | exact Calls.quiet_of_same ((C4.out _ (hzz.drawn _)).mono fun _ _ h => ⟨h.1, h.2.symm⟩)))
        go_wp2
        go_ret
        exact ⟨rfl, HBE.trans ((⟨⟨_, rfl⟩⟩ : Drawn wr (wr.drewN _)).below _)⟩

theorem crcLinear_calls (A : Option Addr) (p : List UInt8) (cp : Nat) (B : Option Addr) (q : List UInt8) (cq : Nat) (w : World) (hp : RB w A cp p) (hq : RB w B cq q) (hl : p.length ≤ 140737488355328) (hl2 : q.length ≤ 140737488355328) :
    Calls Try.prog 8 #[.slice A p.length cp, .slice B q.length cq] w fun e w' => e = .returned (.bool true) ∧ Below w.heap.size w w' := by
  by_cases hle : p.length ≤ q.length
  · exact crcLinear_p A p cp B q cq w hp hq hl hl2 hle
  · exact crcLinear_q A p cp B q cq w hp hq hl hl2 (by omega)
end Go.Proofs.Ytfkbdchpncadoaa
