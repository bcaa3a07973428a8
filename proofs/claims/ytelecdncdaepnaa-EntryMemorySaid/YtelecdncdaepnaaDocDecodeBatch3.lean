/- notaryref05.DocDecodeBatch, joined. -/
import Derived.Test.YtelecdncdaepnaaDocDecodeBatch2
namespace Go.Proofs.Ytelecdncdaepnaa
open Go.RowKit
open WireMath (numS beN rawS blobS uvarS grpL uvarL wideL)

theorem docBatNo {A : Option Addr} {n c : Nat} {w : World} {t : Bat} {e e9 : Nat} (ht : batNo e = t) (he : e9 = e)
    (h : Calls Try.prog 29 #[.slice A n c] w fun r w' => r = .returned (.tuple #[.agg #[.int .u64 0, .slice none 0 0], .int .i64 e9]) ∧ Below w.heap.size w w') :
    Calls Try.prog 29 #[.slice A n c] w fun r w' => ∃ A' c', r = .returned (.tuple #[.agg #[.int .u64 t.f, .slice A' t.l.length c'], .int .i64 t.e]) ∧ BatAt w w' A' t.l.length t.l := by
  subst ht; subst he
  refine h.mono ?_
  rintro r w' ⟨rfl, hb⟩
  exact ⟨none, 0, rfl, ⟨⟨[], rfl, rfl, ⟨fun i hi => absurd hi (by simp), fun o ho => absurd ho (by simp)⟩⟩, hb⟩⟩
theorem doneE_bad (P : List UInt8) (at_ e : Nat) (h : e ≠ 0) : doneE P at_ e = e := by unfold doneE; rw [if_pos (.inl h)]
theorem docDecodeB_calls (A : Option Addr) (P : List UInt8) (n c : Nat) (w : World) (hp : RB w A c P) (hn : n = P.length) (hl : P.length ≤ 140737488355328) (t : Bat) (ht : decB P = t) :
    Calls Try.prog 29 #[.slice A n c] w fun r w' => ∃ A' c', r = .returned (.tuple #[.agg #[.int .u64 t.f, .slice A' t.l.length c'], .int .i64 t.e]) ∧ BatAt w w' A' t.l.length t.l := by
  unfold decB at ht
  have hf := uvarS_lt P 0 0
  obtain ⟨f, a1, e1, h1⟩ : ∃ f a1 e1, uvarS P 0 0 = (f, a1, e1) := ⟨_, _, _, rfl⟩
  rw [h1] at ht hf
  simp only at ht hf
  by_cases z1 : e1 ≠ 0
  · rw [if_pos z1] at ht
    have h2 := uvarS_badE P a1 e1 z1
    have hfl : failE e1 3 = e1 := by unfold failE; rw [if_neg z1]
    have hd : doneE P a1 (failE e1 3) = e1 := by rw [hfl]; exact doneE_bad _ _ _ z1
    exact docBatNo ht rfl (docbatch_b A P n c w hp hn hl f a1 e1 0 a1 e1 h1 h2 hf rfl e1 hd z1)
  · rw [if_neg z1] at ht
    have z1' : e1 = 0 := by omega
    subst z1'
    have hm := uvarS_lt P a1 0
    have hb0 := uvarS_bad0 P a1 0
    obtain ⟨m, a2, e2, h2⟩ : ∃ m a2 e2, uvarS P a1 0 = (m, a2, e2) := ⟨_, _, _, rfl⟩
    rw [h2] at ht hm hb0
    simp only at ht hm hb0
    by_cases z2 : e2 ≠ 0
    · rw [if_pos z2] at ht
      have hfl : failE e2 3 = e2 := by unfold failE; rw [if_neg z2]
      have hd : doneE P a2 (failE e2 3) = e2 := by rw [hfl]; exact doneE_bad _ _ _ z2
      exact docBatNo ht rfl (docbatch_b A P n c w hp hn hl f a1 0 m a2 e2 h1 h2 hf (hb0 z2) e2 hd z2)
    · rw [if_neg z2] at ht
      have z2' : e2 = 0 := by omega
      subst z2'
      by_cases h3 : 64 < m
      · rw [if_pos h3] at ht
        exact docBatNo ht rfl (docbatch_a A P n c w hp hn hl f a1 0 m a2 0 h1 h2 hf h3 hm 2 (doneE_bad _ _ _ (by decide)) (by decide))
      · rw [if_neg h3] at ht
        by_cases h4 : m = 0
        · rw [if_pos (.inl h4)] at ht
          exact docBatNo ht rfl (docbatch_b A P n c w hp hn hl f a1 0 m a2 0 h1 h2 hf h4 3 (doneE_bad _ _ _ (by decide)) (by decide))
        · by_cases h5 : 18446744073709551616 ≤ f + m
          · rw [if_pos (.inr h5)] at ht
            exact docBatNo ht rfl (docbatch_c A P n c w hp hn hl f a1 0 m a2 0 h1 h2 hf (by omega) h4 h5 3 (doneE_bad _ _ _ (by decide)) (by decide))
          · rw [if_neg (by omega)] at ht
            exact docbatch_main A P n c w hp hn hl f a1 0 m a2 0 h1 h2 rfl hf (by omega) h4 (by omega) t ht
end Go.Proofs.Ytelecdncdaepnaa
