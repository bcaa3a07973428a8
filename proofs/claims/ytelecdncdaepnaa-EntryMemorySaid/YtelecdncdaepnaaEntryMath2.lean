/- Plain laws of layer 5: batches. -/
import Derived.Test.YtelecdncdaepnaaEntryMath
namespace Go.Proofs.Ytelecdncdaepnaa
open WireMath (numS beN rawS blobS uvarS grpL uvarL wideL)

theorem errB_ok (f : Nat) (l : List En) (h0 : l.length ≠ 0) (h1 : f + l.length < 18446744073709551616) (h2 : l.length ≤ 64) (h3 : ∀ x ∈ l, chkF x = 0) : errB f l.length l = 0 := by
  unfold errB
  have e0 : err0 f l.length = 0 := by unfold err0; rw [if_neg (by omega), if_neg (by omega)]
  rw [e0]
  clear h0 h1 h2 e0
  induction l with
  | nil => rfl
  | cons y l ih =>
    rw [List.foldl_cons, h3 y (List.mem_cons_self ..)]
    exact ih fun x hx => h3 x (List.mem_cons_of_mem _ hx)
theorem encBF_ok (f : Nat) (l : List En) (q : List UInt8) (h : encBF f l = (q, 0)) : q = encBL f l ∧ l.length ≠ 0 ∧ f + l.length < 18446744073709551616 ∧ l.length ≤ 64 ∧ ∀ x ∈ l, chkF x = 0 := by
  unfold encBF at h
  split at h
  · rename_i hz
    injection h with h1 _
    unfold errB at hz
    obtain ⟨z1, z2⟩ := fold_zero _ _ hz
    obtain ⟨y1, y2, y3⟩ := err0_zero _ _ z1
    exact ⟨h1.symm, y1, y2, y3, z2⟩
  · rename_i hz
    injection h with _ h2
    exact absurd h2 hz
/-- what is read off a batch's bytes, and all behind them -/
theorem decB_pre (f : Nat) (l : List En) (rest : List UInt8) (h0 : l.length ≠ 0) (h1 : f + l.length < 18446744073709551616) (h2 : l.length ≤ 64) (h3 : ∀ x ∈ l, chkF x = 0) :
    decB (encBL f l ++ rest) = if rest = [] then ⟨0, f, l⟩ else batNo 3 := by
  have u1 : uvarS (encBL f l ++ rest) 0 0 = (f, 0 + (uvarL f).length, 0) := uvar_laid _ 0 f (uvarL l.length ++ l.flatMap encL ++ rest) (by unfold encBL; simp) (by omega)
  have hd2 : (encBL f l ++ rest).drop (0 + (uvarL f).length) = uvarL l.length ++ (l.flatMap encL ++ rest) := by unfold encBL; simp
  have u2 : uvarS (encBL f l ++ rest) (0 + (uvarL f).length) 0 = (l.length, 0 + (uvarL f).length + (uvarL l.length).length, 0) := uvar_laid _ _ l.length _ hd2 (by omega)
  have hd3 : (encBL f l ++ rest).drop (0 + (uvarL f).length + (uvarL l.length).length) = l.flatMap encL ++ rest := by rw [← List.drop_drop, hd2]; simp
  have u3 := entsS_laid (encBL f l ++ rest) l _ rest hd3 h3
  have hlen : (encBL f l ++ rest).length = 0 + (uvarL f).length + (uvarL l.length).length + (l.flatMap encL).length + rest.length := by unfold encBL; simp; omega
  unfold decB
  rw [u1]
  simp only
  rw [if_neg (by simp), u2]
  simp only
  rw [if_neg (by simp), if_neg (by omega), if_neg (by omega)]
  unfold batF
  rw [u3]
  simp only
  rw [if_neg (by simp)]
  by_cases hr : rest = []
  · have hd : doneE (encBL f l ++ rest) (0 + (uvarL f).length + (uvarL l.length).length + (l.flatMap encL).length) 0 = 0 := by
      unfold doneE; rw [if_pos (Or.inr (by rw [hlen, hr]; rfl))]
    rw [hd, if_neg (by simp), if_pos hr]
  · have h9 : rest.length ≠ 0 := fun e => hr (List.eq_nil_of_length_eq_zero e)
    have hd : doneE (encBL f l ++ rest) (0 + (uvarL f).length + (uvarL l.length).length + (l.flatMap encL).length) 0 = 3 := by
      unfold doneE
      rw [if_neg]
      rintro (h | h)
      · exact absurd rfl h
      · omega
    rw [hd, if_pos (by decide), if_neg hr]
theorem decB_laid (f : Nat) (l : List En) (q : List UInt8) (h : encBF f l = (q, 0)) : decB q = ⟨0, f, l⟩ := by
  obtain ⟨rfl, h0, h1, h2, h3⟩ := encBF_ok f l q h
  have := decB_pre f l [] h0 h1 h2 h3
  rw [List.append_nil, if_pos rfl] at this
  exact this
theorem decB_back (W : List UInt8) (f : Nat) (l : List En) (h : decB W = ⟨0, f, l⟩) : encBF f l = (W, 0) := by
  unfold decB at h
  have nb : ∀ e, e ≠ 0 → batNo e ≠ ⟨0, f, l⟩ := fun e he h9 => he (congrArg Bat.e h9)
  obtain ⟨g, a1, e1, h1⟩ : ∃ g a1 e1, uvarS W 0 0 = (g, a1, e1) := ⟨_, _, _, rfl⟩
  rw [h1] at h
  simp only at h
  split at h
  · rename_i h9; exact absurd h (nb _ h9)
  · rename_i h9
    obtain rfl : e1 = 0 := by omega
    obtain ⟨m, a2, e2, h2⟩ : ∃ m a2 e2, uvarS W a1 0 = (m, a2, e2) := ⟨_, _, _, rfl⟩
    rw [h2] at h
    simp only at h
    split at h
    · rename_i h8; exact absurd h (nb _ h8)
    · rename_i h8
      obtain rfl : e2 = 0 := by omega
      split at h
      · exact absurd h (nb _ (by decide))
      · rename_i h64
        split at h
        · exact absurd h (nb _ (by decide))
        · rename_i hfit
          unfold batF at h
          split at h
          · rename_i h7; exact absurd h (nb _ h7)
          · rename_i h7
            split at h
            · rename_i h6; exact absurd h (nb _ h6)
            · rename_i h6
              injection h with _ hf hl
              subst hf
              obtain ⟨b1, b2, _⟩ := uvar_back W 0 g a1 h1
              obtain ⟨c1, c2, _⟩ := uvar_back W a1 m a2 h2
              obtain ⟨d0, d1, d2, d3⟩ := entsS_back W m a2 _ rfl (by omega)
              rw [hl] at d0 d1 d2 d3
              have hat : (entsS W m a2).at_ = W.length := by
                have h6' : doneE W (entsS W m a2).at_ 0 = 0 := by omega
                unfold doneE at h6'
                split at h6'
                · rename_i h5; rcases h5 with h5 | h5
                  · exact absurd rfl h5
                  · exact h5
                · omega
              have hW : W = encBL g l := by
                unfold encBL
                rw [d0]
                rw [hat, List.drop_length, List.append_nil] at d2
                rw [← d2, ← c1, ← b1]; rfl
              subst d0
              unfold encBF
              rw [if_pos (errB_ok g l (by omega) (by omega) (by omega) d1), ← hW]
theorem decB_cut (f : Nat) (l : List En) (q : List UInt8) (h : encBF f l = (q, 0)) (k : Nat) (hk : k < q.length) : (decB (q.take k)).e ≠ 0 := by
  intro he
  obtain ⟨t, ht⟩ : ∃ t, decB (q.take k) = t := ⟨_, rfl⟩
  obtain ⟨e, g, m⟩ := t
  rw [ht] at he
  simp only at he
  subst he
  have hb := decB_back _ _ _ ht
  obtain ⟨e1, e2, e3, e4, e5⟩ := encBF_ok _ _ _ hb
  have h1 := decB_pre g m (q.drop k) e2 e3 e4 e5
  rw [← e1, List.take_append_drop, decB_laid f l q h] at h1
  have hr : q.drop k ≠ [] := fun e => by have := congrArg List.length e; simp at this; omega
  rw [if_neg hr] at h1
  exact absurd (congrArg Bat.e h1) (by simp [batNo])
theorem decB_more (f : Nat) (l : List En) (q : List UInt8) (h : encBF f l = (q, 0)) (c : UInt8) : (decB (q ++ [c])).e ≠ 0 := by
  obtain ⟨e1, e2, e3, e4, e5⟩ := encBF_ok _ _ _ h
  rw [e1, decB_pre f l [c] e2 e3 e4 e5, if_neg (by simp)]
  simp [batNo]
theorem encE_ok (e : En) (q : List UInt8) (h : encE e = (q, 0)) : q = encL e ∧ chkF e = 0 := by
  unfold encE at h
  split at h
  · rename_i hc; injection h with h1 _; exact ⟨h1.symm, hc⟩
  · rename_i hc; injection h with _ h2; exact absurd h2 hc
theorem decF_pre (e : En) (rest : List UInt8) (hc : chkF e = 0) : decF (encL e ++ rest) = if rest = [] then (0, e) else (3, ⟨0, [], []⟩) := by
  have h1 := entS_laid (encL e ++ rest) 0 e rest (by simp) hc
  unfold decF
  rw [h1]
  simp only
  rw [if_neg (by simp)]
  by_cases hr : rest = []
  · have hd : doneE (encL e ++ rest) (0 + (encL e).length) 0 = 0 := by
      unfold doneE; rw [if_pos (Or.inr (by rw [hr]; simp))]
    rw [hd, if_neg (by simp), if_pos hr]
  · have h9 : rest.length ≠ 0 := fun e => hr (List.eq_nil_of_length_eq_zero e)
    have hd : doneE (encL e ++ rest) (0 + (encL e).length) 0 = 3 := by
      unfold doneE
      rw [if_neg]
      rintro (h | h)
      · exact absurd rfl h
      · rw [List.length_append] at h; omega
    rw [hd, if_pos (by decide), if_neg hr]
theorem decF_laid (e : En) (q : List UInt8) (h : encE e = (q, 0)) : decF q = (0, e) := by
  obtain ⟨rfl, hc⟩ := encE_ok e q h
  have := decF_pre e [] hc
  rw [List.append_nil, if_pos rfl] at this
  exact this
theorem decF_back (W : List UInt8) (v : En) (h : decF W = (0, v)) : encE v = (W, 0) := by
  unfold decF at h
  split at h
  · rename_i h9; injection h with h1 _; exact absurd h1 h9
  · rename_i h9
    split at h
    · rename_i h8; injection h with h1 _; exact absurd h1 h8
    · rename_i h8
      injection h with _ hv
      obtain ⟨b1, b2, b3⟩ := entS_back W 0 _ rfl (by omega)
      rw [hv] at b1 b2 b3
      have hat : (entS W 0).at_ = W.length := by
        have h6' : doneE W (entS W 0).at_ 0 = 0 := by omega
        unfold doneE at h6'
        split at h6'
        · rename_i h5; rcases h5 with h5 | h5
          · exact absurd rfl h5
          · exact h5
        · omega
      rw [hat, List.drop_length, List.append_nil] at b2
      unfold encE
      rw [if_pos b1, ← b2]; rfl
theorem decF_cut (e : En) (q : List UInt8) (h : encE e = (q, 0)) (k : Nat) (hk : k < q.length) : (decF (q.take k)).1 ≠ 0 := by
  intro he
  obtain ⟨a, v, ht⟩ : ∃ a v, decF (q.take k) = (a, v) := ⟨_, _, rfl⟩
  rw [ht] at he
  simp only at he
  subst he
  obtain ⟨e1, e2⟩ := encE_ok _ _ (decF_back _ _ ht)
  have h1 := decF_pre v (q.drop k) e2
  rw [← e1, List.take_append_drop, decF_laid e q h] at h1
  have hr : q.drop k ≠ [] := fun e => by have := congrArg List.length e; simp at this; omega
  rw [if_neg hr] at h1
  exact absurd (congrArg Prod.fst h1) (by simp)
theorem decF_more (e : En) (q : List UInt8) (h : encE e = (q, 0)) (c : UInt8) : (decF (q ++ [c])).1 ≠ 0 := by
  obtain ⟨e1, e2⟩ := encE_ok _ _ h
  rw [e1, decF_pre e [c] e2, if_neg (by simp)]
  decide
end Go.Proofs.Ytelecdncdaepnaa
