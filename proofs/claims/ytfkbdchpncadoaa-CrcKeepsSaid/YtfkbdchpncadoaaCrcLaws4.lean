/- The statement on what is handed in: it stays as it was, spare room too. -/
import Derived.Test.YtfkbdchpncadoaaCrcLaws2
namespace Go.Proofs.Ytfkbdchpncadoaa
open Go.RowKit
open CrcMath (W)

set_option maxHeartbeats 1000000 in
theorem crcKeeps_calls (c : W) (A : Option Addr) (p : List UInt8) (cap : Nat) (w : World) (hp : RB w A cap p) (hl : p.length ≤ 140737488355000) :
    Calls Try.prog 10 #[.int .u32 (uI c), .slice A p.length cap] w fun e w' => e = .returned (.bool true) ∧ Below w.heap.size w w' := by
  have hov := over_length p
  generalize hov1 : over p = ov at hov
  generalize hu : CrcMath.upd c (p.map bW) = u
  generalize hs : CrcMath.sum (p.map bW) = s
  generalize hu2 : CrcMath.upd c (ov.map bW) = u2
  generalize hs2 : CrcMath.sum (ov.map bW) = s2
  have HOV := Lib.hid hov1
  have HU := Lib.hid hu
  have HS := Lib.hid hs
  have HU2 := Lib.hid hu2
  have HS2 := Lib.hid hs2
  have HL := Lib.hid hov
  clear hov1 hu hs hu2 hs2 hov
  go_enter Try.func10, Try.ntmps10
  go_wp2_with (first | (go_at_call 12; (with_reducible refine (awake_calls _).mono ?_); rintro e w1 ⟨rfl, HB⟩; have HZ1 := HB.size; replace hp := hp.new HB) | (go_at_call 22; (with_reducible refine (spare_calls A p cap _ hp (by omega)).mono ?_); rintro e w2 ⟨rfl, hn2⟩; have hof := hn2.own; have hrf := hof.reads; have hrq := hrf.pre; replace hp := hp.new hn2.below; replace HB := below_new HB hn2.below) | (go_at_call 13; (with_reducible refine (updateR c _ p _ _ _ hrq rfl u HU.out).mono ?_); rintro e w' ⟨rfl, rfl⟩) | (go_at_call 16; (with_reducible refine (sumR _ p _ _ _ hrq rfl s HS.out).mono ?_); rintro e w' ⟨rfl, rfl⟩) | (go_at_call 23; (with_reducible refine (kept_calls _ _ _ _ p _ hrf hp _ rfl (by omega)).mono ?_); rintro e w3 ⟨rfl, hd⟩; replace HB := HB.trans (hd.below _); replace hp := hp.new (hd.below _); replace hof := hof.new (hd.below _); have hrq2 := hof.reads.pre) | (go_at_call 15; (with_reducible refine (refupdateR c _ p _ _ _ hp rfl u HU.out).mono ?_); rintro e w' ⟨rfl, rfl⟩) | (go_at_call 17; (with_reducible refine (refsumR _ p _ _ _ hp rfl s HS.out).mono ?_); rintro e w' ⟨rfl, rfl⟩) | (go_at_call 24; (with_reducible refine (overR _ _ _ _ _ _ p (marks 40) _ hof rfl).mono ?_); rw [HOV.out]; rintro e w4 ⟨rfl, ho4, hg4⟩; have HB4 := below_grown HB hof hg4 HB.size HZ1; have hr4 := ho4.reads.pre) | (go_at_call 14; (with_reducible refine (twinR _ ov _ _ _ hr4 HL.out.symm (by have := HL.out; omega)).mono ?_); rintro e w5 ⟨A5, c5, rfl, hn5⟩; have HB5 := below_new HB4 hn5.below; have hr5 := hr4.new hn5.below; have ht5 := hn5.own.reads) | (go_at_call 13; (with_reducible refine (updateR c _ ov _ _ _ hr5 HL.out.symm u2 HU2.out).mono ?_); rintro e w' ⟨rfl, rfl⟩) | (go_at_call 15; (with_reducible refine (refupdateR c _ ov _ _ _ ht5 HL.out.symm u2 HU2.out).mono ?_); rintro e w' ⟨rfl, rfl⟩) | (go_at_call 16; (with_reducible refine (sumR _ ov _ _ _ hr5 HL.out.symm s2 HS2.out).mono ?_); rintro e w' ⟨rfl, rfl⟩) | (go_at_call 17; (with_reducible refine (refsumR _ ov _ _ _ ht5 HL.out.symm s2 HS2.out).mono ?_); rintro e w' ⟨rfl, rfl⟩) | (go_at_call 21; (with_reducible refine (sameR _ _ ov ov _ _ _ _ _ hr5 ht5 HL.out.symm HL.out.symm true (by simp)).mono ?_); rintro e w6 ⟨rfl, hd6⟩; have HB6 := HB5.trans (hd6.below _)))
  go_ret
  exact ⟨rfl, HB6⟩
end Go.Proofs.Ytfkbdchpncadoaa
