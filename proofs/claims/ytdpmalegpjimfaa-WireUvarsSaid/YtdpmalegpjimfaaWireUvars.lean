/- WireUvars. -/
import Derived.Test.YtdpmalegpjimfaaWireLaws
namespace Go.Proofs.Ytdpmalegpjimfaa.WireMath
/-- how many groups stand behind the first -/
def dg : Nat → Nat → Nat
  | 0, _ => 0
  | f + 1, y => if y = 0 then 0 else 1 + dg f (y / 128)
theorem uvar_dg (f : Nat) : ∀ v, (uvarF f v).length = 1 + dg f (v / 128) := by
  induction f with
  | zero => intro v; rfl
  | succ f ih =>
    intro v
    by_cases h : v < 128
    · have h0 : v / 128 = 0 := by omega
      simp [uvarF, h, dg, h0]
    · have h0 : v / 128 ≠ 0 := by omega
      simp only [uvarF, h, dg, h0, if_false, List.length_cons, ih]; omega
theorem dg_zero (f : Nat) : dg f 0 = 0 := by cases f <;> rfl
theorem grp_toNat (x : Nat) : (grp x).toNat = x % 128 + 128 := by unfold grp; rw [UInt8.toNat_ofNat']; omega
theorem lst_toNat (x : Nat) (h : x < 128) : (lst x).toNat = x := by unfold lst; rw [UInt8.toNat_ofNat']; omega
/-- each group, and which is the last -/
theorem uvar_get (f : Nat) : ∀ (v i : Nat) (_ : v < 2 * 128 ^ f) (h : i < (uvarF f v).length), ((uvarF f v)[i].toNat % 128 = v / 128 ^ i % 128) ∧ (i + 1 = (uvarF f v).length → (uvarF f v)[i].toNat < 128 ∧ (0 < i → (uvarF f v)[i].toNat ≠ 0) ∧ v / 128 ^ (i + 1) = 0) ∧ (i + 1 < (uvarF f v).length → 128 ≤ (uvarF f v)[i].toNat) := by
  induction f with
  | zero =>
    intro v i hv h
    obtain rfl : i = 0 := by simp [uvarF] at h; exact h
    have := lst_toNat v (by omega)
    simp only [uvarF, List.length_singleton, List.getElem_singleton, this]
    refine ⟨by simp, fun _ => ⟨by omega, by omega, by simp; omega⟩, by omega⟩
  | succ f ih =>
    intro v i hv h
    by_cases hs : v < 128
    · have hu : uvarF (f + 1) v = [lst v] := by simp [uvarF, hs]
      simp only [hu] at h ⊢
      obtain rfl : i = 0 := by simpa using h
      have := lst_toNat v hs
      simp only [List.length_singleton, List.getElem_singleton, this]
      refine ⟨by simp, fun _ => ⟨by omega, by omega, by simp; omega⟩, by omega⟩
    · have hu : uvarF (f + 1) v = grp v :: uvarF f (v / 128) := by simp [uvarF, hs]
      simp only [hu] at h ⊢
      have hp := uvarF_pos f (v / 128)
      cases i with
      | zero =>
        simp only [List.length_cons, List.getElem_cons_zero, grp_toNat]
        refine ⟨by simp, by omega, by omega⟩
      | succ i =>
        have hv2 : v / 128 < 2 * 128 ^ f := by rw [Nat.pow_succ] at hv; omega
        have hi : i < (uvarF f (v / 128)).length := by simpa using h
        obtain ⟨h1, h2, h3⟩ := ih (v / 128) i hv2 hi
        have hp2 : ∀ k, v / 128 ^ (k + 1) = v / 128 / 128 ^ k := fun k => by rw [Nat.pow_succ, Nat.mul_comm, ← Nat.div_div_eq_div_mul]
        simp only [List.length_cons, List.getElem_cons_succ, hp2]
        refine ⟨h1, fun e => ?_, fun e => h3 (by omega)⟩
        obtain ⟨k1, k2, k3⟩ := h2 (by omega)
        refine ⟨k1, fun _ => ?_, k3⟩
        by_cases i0 : i = 0
        · subst i0
          intro e0
          rw [e0] at h1
          simp at h1 k3
          omega
        · exact k2 (by omega)
theorem div_next (v i : Nat) : v / 128 ^ (i + 1) * 128 + v / 128 ^ i % 128 = v / 128 ^ i := by
  rw [Nat.pow_succ, ← Nat.div_div_eq_div_mul]; omega
end Go.Proofs.Ytdpmalegpjimfaa.WireMath
namespace Go.Proofs.Ytdpmalegpjimfaa
open Go.RowKit
open WireMath (uvarL dg)

set_option maxRecDepth 100000 in
theorem wireUvars_calls (v : Nat) (hv : v ≤ 18446744073709551615) (w : World) : Calls Try.prog 3 #[.int .u64 v] w fun e' w' => e' = .returned (.bool true) ∧ Below w.heap.size w w' := by
  have hl := WireMath.uvarL_length v
  have hl0 : 0 < (uvarL v).length := WireMath.uvarF_pos 9 v
  have hget : ∀ i (h : i < (uvarL v).length), _ := fun i h => WireMath.uvar_get 9 v i (Nat.lt_of_le_of_lt hv (by decide)) h
  have hdg : (uvarL v).length = 1 + dg 9 (v / 128) := WireMath.uvar_dg 9 v
  replace hget : ∀ i (h : i < (uvarL v).length), ((uvarL v)[i].toNat % 128 = v / 128 ^ i % 128) ∧ (i + 1 = (uvarL v).length → (uvarL v)[i].toNat < 128 ∧ (0 < i → (uvarL v)[i].toNat ≠ 0) ∧ v / 128 ^ (i + 1) = 0) ∧ (i + 1 < (uvarL v).length → 128 ≤ (uvarL v)[i].toNat) := hget
  generalize hq : uvarL v = q at *
  have HQ := Lib.hid (show [] ++ uvarL v = q from hq)
  obtain ⟨m, hm⟩ : ∃ m, q.length = m + 1 := ⟨q.length - 1, by omega⟩
  have HM := Lib.hid hm.symm
  have hlast : 0 < m → (uB (q[m]'(by rw [hm]; exact Nat.lt_succ_self m)) == 0) = false := fun h0 => by
    rw [beq_eq_false_iff_ne]; unfold uB
    have := ((hget m (by omega)).2.1 hm.symm).2.1 h0
    omega
  have HG := Lib.hid hget
  have HD := Lib.hid hdg
  have hm10 : m ≤ 9 := by omega
  have HS := Lib.hid (show q.length ≤ 140737488355328 by omega)
  clear hq hget hdg hl hl0
  by_cases h0 : 0 < m
  · have HL := hlast h0
    clear hlast
    go_enter Try.func3, Try.ntmps3
    go_wp2_with (first
      | (go_at_call 15; (with_reducible refine (awake_calls _).mono ?_); rintro e0 w0 ⟨rfl, hb0⟩)
      | (go_at_call 16; (with_reducible refine (uvarN w0.heap.size w0.heap.size none [] q v _ rfl HQ.out _ (Wr.fresh w0 _ (Nat.le_refl _) _) hv (by simp)).mono ?_); rintro e1 w1 ⟨row1, rfl, hw1, hs1⟩)
      | (go_at_call 17; (with_reducible refine (bytesN w0.heap.size w0.heap.size row1 q (m + 1) HM.out _ hw1 HS.out).mono ?_); rintro e2 w2 ⟨A, c, rfl, hn2⟩; have hrb := hn2.own.rb; obtain ⟨a, rfl, hcm⟩ := hrb.at_ m (by have := HM.out; omega)))
    go_loop [5, 6] (fun g x => ∃ f y k : Nat, f ≤ 9 ∧ k ≤ 10 ∧ g = .int .i64 k ∧ x = .int .u64 y ∧ y ≤ v ∧ Hid (q.length = k + dg f y ∧ y < 128 ^ f)) (fun _ x => (intOf x).toNat)
    case atStart => exact ⟨9, v / 128, 1, by omega, by omega, rfl, (by first | rfl | go_num), by omega, Lib.hid ⟨HD.out, by omega⟩⟩
    case round =>
      obtain ⟨f, y, k, hf, hk, rfl, rfl, hy, HY⟩ := hrel
      by_cases hy0 : 0 < y
      · have hlen := HM.out
        obtain ⟨f, rfl⟩ : ∃ f', f = f' + 1 := by
          cases f with
          | zero => have := HY.out.2; simp at this; omega
          | succ f => exact ⟨f, rfl⟩
        have hst : q.length = (k + 1) + dg f (y / 128) ∧ y / 128 < 128 ^ f := by
          obtain ⟨e1, e2⟩ := HY.out
          rw [dg, if_neg (by omega)] at e1
          rw [Nat.pow_succ] at e2
          exact ⟨by omega, by omega⟩
        have hk9 : k ≤ 9 := by omega
        have HST := Lib.hid hst
        clear hst hlen
        go_wp2
        go_round
        case rel => exact ⟨f, y / 128, k + 1, by omega, by omega, by go_num, by go_num, by omega, HST⟩
        case measure => simp [intOf] <;> omega
      · obtain rfl : y = 0 := by omega
        have hke : k = m + 1 := by have := HY.out.1; rw [WireMath.dg_zero] at this; have := HM.out; omega
        subst hke
        clear HY
        go_wp2
        clear hcm
        go_loop [7, 8] (fun s i => ∃ j : Nat, j ≤ m + 1 ∧ i = .int .i64 ((j : Int) - 1) ∧ s = .int .u64 ((v / 128 ^ j : Nat) : Int)) (fun _ i => (intOf i + 1).toNat)
        case atStart =>
          have hz : v / 128 ^ (m + 1) = 0 := by
            have hm1 := HM.out
            have := ((HG.out m (by omega)).2.1 (by omega)).2.2
            exact this
          exact ⟨m + 1, by omega, (by first | rfl | go_num), by rw [hz]; rfl⟩
        case round =>
          obtain ⟨j, hj, rfl, rfl⟩ := hrel
          cases j with
          | zero =>
            rw [show v / 128 ^ 0 = v by simp]
            go_wp2
            go_ret
            have B1 := below_writer (below_alloc1 (Below.refl w0.heap.size w0) (Nat.le_refl _) (.cells #[.slice none 0 0] 26)) hs1 (Wr.fresh w0 _ (Nat.le_refl _) _)
            exact ⟨rfl, below_then hb0 (below_then B1 hn2.below)⟩
          | succ j =>
            have hjl : j < q.length := by have := HM.out; omega
            obtain ⟨a, e, hc⟩ := hrb.at_ j hjl
            obtain rfl := Option.some.inj e
            obtain ⟨g1, g2, g3⟩ := HG.out j hjl
            have hn := WireMath.div_next v j
            have hb : v / 128 ^ j ≤ v := Nat.div_le_self _ _
            have hu : uB q[j] = ((q[j].toNat : Nat) : Int) := rfl
            rw [hu] at hc
            rw [← g1] at hn
            have hu2 : q[j].toNat < 256 := q[j].toNat_lt
            generalize q[j].toNat = u at *
            generalize hs : v / 128 ^ (j + 1) = s at *
            generalize hs2 : v / 128 ^ j = s2 at *
            by_cases hjm : j = m
            · subst hjm
              have hu1 : u < 128 := (g2 HM.out).1
              have hbd : s * 128 + u % 128 ≤ 18446744073709551615 := by omega
              have HN := Lib.hid (hn.trans hs2.symm)
              clear g1 g2 g3 hs hs2 hn
              go_wp2
              all_goals (try (exfalso; omega))
              go_round
              case rel => exact ⟨j, by omega, rfl, by rw [← HN.out]; go_num⟩
              case measure => simp [intOf] <;> omega
            · have hjm2 : j < m := by omega
              have hu1 : 128 ≤ u := g3 (by have := HM.out; omega)
              have hdb : decide ((128 : Int) ≤ u) = true := by rw [decide_eq_true_iff]; omega
              have hbd : s * 128 + u % 128 ≤ 18446744073709551615 := by omega
              have HN := Lib.hid (hn.trans hs2.symm)
              clear g1 g2 g3 hs hs2 hn
              go_wp2
              all_goals (try (rename (!decide _) = true => hx; exfalso; simp at hx; omega))
              go_round
              case rel => exact ⟨j, by omega, rfl, by rw [← HN.out]; go_num⟩
              case measure => simp [intOf] <;> omega
  · replace h0 : m ≤ 0 := by omega
    clear hlast
    go_enter Try.func3, Try.ntmps3
    go_wp2_with (first
      | (go_at_call 15; (with_reducible refine (awake_calls _).mono ?_); rintro e0 w0 ⟨rfl, hb0⟩)
      | (go_at_call 16; (with_reducible refine (uvarN w0.heap.size w0.heap.size none [] q v _ rfl HQ.out _ (Wr.fresh w0 _ (Nat.le_refl _) _) hv (by simp)).mono ?_); rintro e1 w1 ⟨row1, rfl, hw1, hs1⟩)
      | (go_at_call 17; (with_reducible refine (bytesN w0.heap.size w0.heap.size row1 q (m + 1) HM.out _ hw1 HS.out).mono ?_); rintro e2 w2 ⟨A, c, rfl, hn2⟩; have hrb := hn2.own.rb; obtain ⟨a, rfl, hcm⟩ := hrb.at_ m (by have := HM.out; omega)))
    go_loop [5, 6] (fun g x => ∃ f y k : Nat, f ≤ 9 ∧ k ≤ 10 ∧ g = .int .i64 k ∧ x = .int .u64 y ∧ y ≤ v ∧ Hid (q.length = k + dg f y ∧ y < 128 ^ f)) (fun _ x => (intOf x).toNat)
    case atStart => exact ⟨9, v / 128, 1, by omega, by omega, rfl, (by first | rfl | go_num), by omega, Lib.hid ⟨HD.out, by omega⟩⟩
    case round =>
      obtain ⟨f, y, k, hf, hk, rfl, rfl, hy, HY⟩ := hrel
      by_cases hy0 : 0 < y
      · have hlen := HM.out
        obtain ⟨f, rfl⟩ : ∃ f', f = f' + 1 := by
          cases f with
          | zero => have := HY.out.2; simp at this; omega
          | succ f => exact ⟨f, rfl⟩
        have hst : q.length = (k + 1) + dg f (y / 128) ∧ y / 128 < 128 ^ f := by
          obtain ⟨e1, e2⟩ := HY.out
          rw [dg, if_neg (by omega)] at e1
          rw [Nat.pow_succ] at e2
          exact ⟨by omega, by omega⟩
        have hk9 : k ≤ 9 := by omega
        have HST := Lib.hid hst
        clear hst hlen
        go_wp2
        go_round
        case rel => exact ⟨f, y / 128, k + 1, by omega, by omega, by go_num, by go_num, by omega, HST⟩
        case measure => simp [intOf] <;> omega
      · obtain rfl : y = 0 := by omega
        have hke : k = m + 1 := by have := HY.out.1; rw [WireMath.dg_zero] at this; have := HM.out; omega
        subst hke
        clear HY
        go_wp2
        clear hcm
        go_loop [7, 8] (fun s i => ∃ j : Nat, j ≤ m + 1 ∧ i = .int .i64 ((j : Int) - 1) ∧ s = .int .u64 ((v / 128 ^ j : Nat) : Int)) (fun _ i => (intOf i + 1).toNat)
        case atStart =>
          have hz : v / 128 ^ (m + 1) = 0 := by
            have hm1 := HM.out
            have := ((HG.out m (by omega)).2.1 (by omega)).2.2
            exact this
          exact ⟨m + 1, by omega, (by first | rfl | go_num), by rw [hz]; rfl⟩
        case round =>
          obtain ⟨j, hj, rfl, rfl⟩ := hrel
          cases j with
          | zero =>
            rw [show v / 128 ^ 0 = v by simp]
            go_wp2
            go_ret
            have B1 := below_writer (below_alloc1 (Below.refl w0.heap.size w0) (Nat.le_refl _) (.cells #[.slice none 0 0] 26)) hs1 (Wr.fresh w0 _ (Nat.le_refl _) _)
            exact ⟨rfl, below_then hb0 (below_then B1 hn2.below)⟩
          | succ j =>
            have hjl : j < q.length := by have := HM.out; omega
            obtain ⟨a, e, hc⟩ := hrb.at_ j hjl
            obtain rfl := Option.some.inj e
            obtain ⟨g1, g2, g3⟩ := HG.out j hjl
            have hn := WireMath.div_next v j
            have hb : v / 128 ^ j ≤ v := Nat.div_le_self _ _
            have hu : uB q[j] = ((q[j].toNat : Nat) : Int) := rfl
            rw [hu] at hc
            rw [← g1] at hn
            have hu2 : q[j].toNat < 256 := q[j].toNat_lt
            generalize q[j].toNat = u at *
            generalize hs : v / 128 ^ (j + 1) = s at *
            generalize hs2 : v / 128 ^ j = s2 at *
            by_cases hjm : j = m
            · subst hjm
              have hu1 : u < 128 := (g2 HM.out).1
              have hbd : s * 128 + u % 128 ≤ 18446744073709551615 := by omega
              have HN := Lib.hid (hn.trans hs2.symm)
              clear g1 g2 g3 hs hs2 hn
              go_wp2
              all_goals (try (exfalso; omega))
              go_round
              case rel => exact ⟨j, by omega, rfl, by rw [← HN.out]; go_num⟩
              case measure => simp [intOf] <;> omega
            · have hjm2 : j < m := by omega
              have hu1 : 128 ≤ u := g3 (by have := HM.out; omega)
              have hdb : decide ((128 : Int) ≤ u) = true := by rw [decide_eq_true_iff]; omega
              have hbd : s * 128 + u % 128 ≤ 18446744073709551615 := by omega
              have HN := Lib.hid (hn.trans hs2.symm)
              clear g1 g2 g3 hs hs2 hn
              go_wp2
              all_goals (try (rename (!decide _) = true => hx; exfalso; simp at hx; omega))
              go_round
              case rel => exact ⟨j, by omega, rfl, by rw [← HN.out]; go_num⟩
              case measure => simp [intOf] <;> omega
theorem wireUvars_row (a : Int) (h0 : 0 ≤ a) (h1 : a ≤ 18446744073709551615) (w : World) : Calls Try.prog 3 #[.int .u64 a] w fun e' w' => e' = .returned (.bool true) ∧ Below w.heap.size w w' := by
  obtain ⟨n, rfl⟩ := Int.eq_ofNat_of_zero_le h0
  exact wireUvars_calls n (by omega) w
end Go.Proofs.Ytdpmalegpjimfaa
