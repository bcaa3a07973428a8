/- The walks of the reference of layer 5: failed, Take. -/
import Derived.Test.YtelecdncdaepnaaEntryTwin
import Derived.Test.YtelecdncdaepnaaEntryList
import Derived.Test.YtelecdncdaepnaaRefWire2
namespace Go.Proofs.Ytelecdncdaepnaa
open Go.RowKit
open WireMath (numS beN rawS blobS uvarS grpL uvarL wideL)

def failE (e f : Nat) : Nat := if e = 0 then f else e
set_option maxRecDepth 100000 in
theorem failed_calls (A : Option Addr) (n c : Nat) (T F : Int) (e f : Nat) (hF : F = f) (E : Int) (hE : E = e) (w : World) :
    Calls Try.prog 69 #[.agg #[.slice A n c, .int .i64 T, .int .i64 E], .int .i64 F] w fun r w' => r = .returned (.agg #[.slice A n c, .int .i64 T, .int .i64 (failE e f)]) ∧ Below w.heap.size w w' := by
  subst hF; subst hE
  have HB := Lib.hid (belowA (below_alloc1 (Below.refl w.heap.size w) (Nat.le_refl _) (.cells #[.slice A n c, .int .i64 T, .int .i64 e] 105)) (.cells #[.slice none 0 0, .int .i64 0, .int .i64 0] 105))
  by_cases he : e = 0
  · have hb : ((e : Int) == 0) = true := by rw [beq_iff_eq]; omega
    have HX := Lib.hid (show (f : Int) = (failE e f : Nat) by unfold failE; rw [if_pos he])
    clear he
    go_enter Try.func69, Try.ntmps69
    go_wp2
    have B1 := belowA (below_alloc1 (Below.refl w.heap.size w) (Nat.le_refl _) (.cells #[.slice A n c, .int .i64 T, .int .i64 f] 105)) (.cells #[.slice A n c, .int .i64 T, .int .i64 f] 105)
    exact bodyPost_ret (results_r1 rfl _ _ (w.heap.size + 1) _ _ _ rfl (Trio.fresh (w.alloc (.cells #[.slice A n c, .int .i64 T, .int .i64 f] 105)) (w.heap.size + 1) (asz _ _) _ _ _ _)) rfl ⟨by rw [HX.out], B1⟩
  · have hb : ((e : Int) == 0) = false := by rw [beq_eq_false_iff_ne]; omega
    have HX := Lib.hid (show (e : Int) = (failE e f : Nat) by unfold failE; rw [if_neg he])
    clear he
    go_enter Try.func69, Try.ntmps69
    go_wp2
    have B1 := belowA (below_alloc1 (Below.refl w.heap.size w) (Nat.le_refl _) (.cells #[.slice A n c, .int .i64 T, .int .i64 e] 105)) (.cells #[.slice A n c, .int .i64 T, .int .i64 e] 105)
    exact bodyPost_ret (results_r1 rfl _ _ (w.heap.size + 1) _ _ _ rfl (Trio.fresh (w.alloc (.cells #[.slice A n c, .int .i64 T, .int .i64 e] 105)) (w.heap.size + 1) (asz _ _) _ _ _ _)) rfl ⟨by rw [HX.out], B1⟩
theorem numS_le (P : List UInt8) (at_ e k : Nat) (h : at_ ≤ P.length) : (numS P at_ e k).2.1 ≤ P.length := by
  unfold WireMath.numS
  split
  · exact h
  · split
    · exact h
    · simp only; omega
theorem blobS_le (P : List UInt8) (at_ e : Nat) (m : Int) (h : at_ ≤ P.length) : (blobS P at_ e m).2.1 ≤ P.length := by
  have := grpLe P at_ h
  unfold WireMath.blobS
  split
  · exact h
  · split
    · exact h
    · split
      · exact h
      · split
        · exact h
        · split
          · exact h
          · simp only; omega
theorem tkWideN (A : Option Addr) (P : List UInt8) (c at_ e k : Nat) (T E N : Int) (hT : T = at_) (hE : E = e) (hN : N = k) (w : World) (hp : RB w A c P) (hl : P.length ≤ 9223372036854775807) (hat : at_ ≤ P.length) (hk : k ≤ 8) (v a2 e2 : Nat) (hr : numS P at_ e k = (v, a2, e2)) :
    Calls Try.prog 98 #[.agg #[.slice A P.length c, .int .i64 T, .int .i64 E], .int .i64 N] w fun e' w' => e' = .returned (.tuple #[.int .u64 v, .agg #[.slice A P.length c, .int .i64 a2, .int .i64 e2]]) ∧ Below w.heap.size w w' := by
  have := takeWide_calls A P c at_ e k N E T hN hE hT w hp hl hat hk
  rw [hr] at this
  exact this
theorem tkBlobN (A : Option Addr) (P : List UInt8) (c at_ e : Nat) (n : Int) (T E : Int) (hT : T = at_) (hE : E = e) (w : World) (hp : RB w A c P) (hl : P.length ≤ 140737488355328) (hat : at_ ≤ P.length) (hn : n ≤ 9223372036854775807) (q : List UInt8) (a2 e2 : Nat) (hr : blobS P at_ e n = (q, a2, e2)) :
    Calls Try.prog 99 #[.agg #[.slice A P.length c, .int .i64 T, .int .i64 E], .int .i64 n] w fun e' w' => ∃ A' c', e' = .returned (.tuple #[.slice A' q.length c', .agg #[.slice A P.length c, .int .i64 a2, .int .i64 e2]]) ∧ NewB w w' (.slice A' q.length c') q := by
  have := takeBlob_calls A P c at_ e n E T hE hT w hp hl hat hn
  rw [hr] at this
  exact this
theorem OB.low3 {w : World} {base e g : Nat} {v x y z : Value} {p : List UInt8} (h : OB w base e v p) (hg : g < base) : OB (((w.setCell ⟨g, 0, none⟩ x).setCell ⟨g, 1, none⟩ y).setCell ⟨g, 2, none⟩ z) base e v p := ((h.low hg).low hg).low hg
/-- what Take leaves -/
structure TkR where
  v : En
  at_ : Nat
  e : Nat
def takeR (P : List UInt8) (at_ e : Nat) : TkR :=
  if (numS P at_ e 1).1 = 1 then
    ⟨⟨1, (blobS P (numS P at_ e 1).2.1 (numS P at_ e 1).2.2 64).1, (blobS P (blobS P (numS P at_ e 1).2.1 (numS P at_ e 1).2.2 64).2.1 (blobS P (numS P at_ e 1).2.1 (numS P at_ e 1).2.2 64).2.2 256).1⟩,
      (blobS P (blobS P (numS P at_ e 1).2.1 (numS P at_ e 1).2.2 64).2.1 (blobS P (numS P at_ e 1).2.1 (numS P at_ e 1).2.2 64).2.2 256).2.1, (blobS P (blobS P (numS P at_ e 1).2.1 (numS P at_ e 1).2.2 64).2.1 (blobS P (numS P at_ e 1).2.1 (numS P at_ e 1).2.2 64).2.2 256).2.2⟩
  else if (numS P at_ e 1).1 = 2 then ⟨⟨2, (blobS P (numS P at_ e 1).2.1 (numS P at_ e 1).2.2 64).1, []⟩, (blobS P (numS P at_ e 1).2.1 (numS P at_ e 1).2.2 64).2.1, (blobS P (numS P at_ e 1).2.1 (numS P at_ e 1).2.2 64).2.2⟩
  else ⟨⟨(numS P at_ e 1).1, (blobS P (numS P at_ e 1).2.1 (failE (numS P at_ e 1).2.2 3) 64).1, []⟩, (blobS P (numS P at_ e 1).2.1 (failE (numS P at_ e 1).2.2 3) 64).2.1, (blobS P (numS P at_ e 1).2.1 (failE (numS P at_ e 1).2.2 3) 64).2.2⟩
/-- the four boxes of Take -/
structure DT (w0 w : World) (r0 r1 r2 v0 v1 v2 : Value) : Prop where
  rd : Trio w w0.heap.size r0 r1 r2
  en : Trio w (w0.heap.size + 1) (.int .u8 0) (.slice none 0 0) (.slice none 0 0)
  rr : Trio w (w0.heap.size + 1 + 1) (.slice none 0 0) (.int .i64 0) (.int .i64 0)
  ev : Trio w (w0.heap.size + 1 + 1 + 1) v0 v1 v2
  below : Below w0.heap.size w0 w
theorem Trio.other1 {w : World} {b g j : Nat} {x y z u : Value} (h : Trio w b x y z) (hne : b ≠ g) : Trio (w.setCell ⟨g, j, none⟩ u) b x y z := h.keepG (setCell_grown w g j u) hne
theorem Trio.other3 {w : World} {b g : Nat} {x y z u v t : Value} (h : Trio w b x y z) (hne : b ≠ g) : Trio (((w.setCell ⟨g, 0, none⟩ u).setCell ⟨g, 1, none⟩ v).setCell ⟨g, 2, none⟩ t) b x y z := ((h.other1 hne).other1 hne).other1 hne
theorem DT.new {w0 w w' : World} {r0 r1 r2 v0 v1 v2 : Value} (h : DT w0 w r0 r1 r2 v0 v1 v2) (hb : Below w.heap.size w w') : DT w0 w' r0 r1 r2 v0 v1 v2 :=
  ⟨h.rd.new hb, h.en.new hb, h.rr.new hb, h.ev.new hb, below_then h.below hb⟩
theorem DT.putR {w0 w : World} {r0 r1 r2 v0 v1 v2 : Value} (h : DT w0 w r0 r1 r2 v0 v1 v2) (x y z : Value) : DT w0 (((w.setCell ⟨w0.heap.size, 0, none⟩ x).setCell ⟨w0.heap.size, 1, none⟩ y).setCell ⟨w0.heap.size, 2, none⟩ z) x y z v0 v1 v2 :=
  ⟨h.rd.put x y z, h.en.other3 (by omega), h.rr.other3 (by omega), h.ev.other3 (by omega), h.below.trans (put3_below (Nat.le_refl _) x y z)⟩
theorem DT.set0 {w0 w : World} {r0 r1 r2 v0 v1 v2 : Value} (h : DT w0 w r0 r1 r2 v0 v1 v2) (u : Value) : DT w0 (w.setCell ⟨w0.heap.size + 1 + 1 + 1, 0, none⟩ u) r0 r1 r2 u v1 v2 :=
  ⟨h.rd.other1 (by omega), h.en.other1 (by omega), h.rr.other1 (by omega), h.ev.set0 u, h.below.setCell (by show _ ≤ w0.heap.size + 1 + 1 + 1; omega) _⟩
theorem DT.set1 {w0 w : World} {r0 r1 r2 v0 v1 v2 : Value} (h : DT w0 w r0 r1 r2 v0 v1 v2) (u : Value) : DT w0 (w.setCell ⟨w0.heap.size + 1 + 1 + 1, 1, none⟩ u) r0 r1 r2 v0 u v2 :=
  ⟨h.rd.other1 (by omega), h.en.other1 (by omega), h.rr.other1 (by omega), h.ev.set1 u, h.below.setCell (by show _ ≤ w0.heap.size + 1 + 1 + 1; omega) _⟩
theorem DT.set2 {w0 w : World} {r0 r1 r2 v0 v1 v2 : Value} (h : DT w0 w r0 r1 r2 v0 v1 v2) (u : Value) : DT w0 (w.setCell ⟨w0.heap.size + 1 + 1 + 1, 2, none⟩ u) r0 r1 r2 v0 v1 u :=
  ⟨h.rd.other1 (by omega), h.en.other1 (by omega), h.rr.other1 (by omega), h.ev.set2 u, h.below.setCell (by show _ ≤ w0.heap.size + 1 + 1 + 1; omega) _⟩
theorem DT.start (w : World) (r0 r1 r2 : Value) : DT w ((((w.alloc (.cells #[r0, r1, r2] 105)).alloc (.cells #[.int .u8 0, .slice none 0 0, .slice none 0 0] 26)).alloc (.cells #[.slice none 0 0, .int .i64 0, .int .i64 0] 105)).alloc (.cells #[.int .u8 0, .slice none 0 0, .slice none 0 0] 26)) r0 r1 r2 (.int .u8 0) (.slice none 0 0) (.slice none 0 0) := by
  have n : ∀ (w : World) (o : Obj), Below w.heap.size w (w.alloc o) := fun w o => below_alloc1 (Below.refl _ _) (Nat.le_refl _) o
  refine ⟨((((Trio.fresh w w.heap.size rfl r0 r1 r2 _).new (n _ _)).new (n _ _)).new (n _ _)), ((Trio.fresh _ (w.heap.size + 1) (asz _ _) _ _ _ _).new (n _ _)).new (n _ _), (Trio.fresh _ (w.heap.size + 1 + 1) (asz2 _ _ _) _ _ _ _).new (n _ _), Trio.fresh _ (w.heap.size + 1 + 1 + 1) (by rw [asz, asz2]) _ _ _ _, ?_⟩
  exact belowA (belowA (belowA (n _ _) _) _) _
theorem results_tk {fn : Func} {p q : Tmp} (h : fn.results = #[.cell p 26, .cell q 105]) (tmps : Array Value) (w : World) (b c : Nat) (x y z r s t : Value) (hp : tmps.getD p undef = .pointer (some ⟨b, 0, none⟩)) (hq : tmps.getD q undef = .pointer (some ⟨c, 0, none⟩)) (ht : Trio w b x y z) (hu : Trio w c r s t) :
    (results fn tmps).run Try.prog w = .ok (.tuple #[.agg #[x, y, z], .agg #[r, s, t]]) w := by
  have hp' : tmps[p]?.getD undef = .pointer (some ⟨b, 0, none⟩) := by simpa using hp
  have hq' : tmps[q]?.getD undef = .pointer (some ⟨c, 0, none⟩) := by simpa using hq
  have hl := run_loadVar_mid (P := Try.prog) w b 0 26 [x, y, z] _ (fun j v hj => by
    match j, hj with
    | 0, hj => simp at hj; subst hj; simpa using ht.c0
    | 1, hj => simp at hj; subst hj; simpa using ht.c1
    | 2, hj => simp at hj; subst hj; simpa using ht.c2
    | j + 3, hj => simp at hj) Try.underlying26 rfl (by kernel_rfl)
  have hl2 := run_loadVar_mid (P := Try.prog) w c 0 105 [r, s, t] _ (fun j v hj => by
    match j, hj with
    | 0, hj => simp at hj; subst hj; simpa using hu.c0
    | 1, hj => simp at hj; subst hj; simpa using hu.c1
    | 2, hj => simp at hj; subst hj; simpa using hu.c2
    | j + 3, hj => simp at hj) Try.underlying105 rfl (by kernel_rfl)
  simp [results, h, hp', hq', asAddr, hl, hl2]
set_option maxHeartbeats 400000 in
set_option maxRecDepth 100000 in
theorem dtake_put (A : Option Addr) (P : List UInt8) (c at_ e : Nat) (T E : Int) (hT : T = at_) (hE : E = e) (w : World) (hp : RB w A c P) (hl : P.length ≤ 140737488355328) (hat : at_ ≤ P.length) (a1 e1 a2 e2 a3 e3 : Nat) (K V : List UInt8) (h1 : numS P at_ e 1 = (1, a1, e1)) (h2 : blobS P a1 e1 64 = (K, a2, e2)) (h3 : blobS P a2 e2 256 = (V, a3, e3)) :
    Calls Try.prog 71 #[.agg #[.slice A P.length c, .int .i64 T, .int .i64 E]] w fun r w' => ∃ a : EnA, r = .returned (.tuple #[.agg #[.int .u8 1, .slice a.KA K.length a.kc, .slice a.VA V.length a.vc], .agg #[.slice A P.length c, .int .i64 a3, .int .i64 e3]]) ∧ NewE w w' ⟨1, K, V⟩ a := by
  subst hT; subst hE
  have D0 := Lib.hid (DT.start w (.slice A P.length c) (.int .i64 at_) (.int .i64 e))
  have hla1 : a1 ≤ P.length := by have := numS_le P at_ e 1 hat; rw [h1] at this; exact this
  have hla2 : a2 ≤ P.length := by have := blobS_le P a1 e1 64 hla1; rw [h2] at this; exact this
  have hl2 : P.length ≤ 9223372036854775807 := by omega
  have H1 := Lib.hid h1
  have H2 := Lib.hid h2
  have H3 := Lib.hid h3
  have c1 := Lib.hid (show (1 : Int) = ((1 : Nat) : Int) from rfl)
  have x0 := D0.out.rd.c0
  have x1 := D0.out.rd.c1
  have x2 := D0.out.rd.c2
  clear h1 h2 h3
  go_enter Try.func71, Try.ntmps71
  go_wp2_with (first
    | (go_at_call 98; go_loud (with_reducible refine (tkWideN A P c at_ e 1 at_ e 1 rfl rfl c1.out _ (hp.new D0.out.below) hl2 hat (by decide) 1 a1 e1 H1.out).mono ?_); rintro r1 w1 ⟨rfl, hb1⟩; have D1 := ((D0.out.new hb1).putR (.slice A P.length c) (.int .i64 a1) (.int .i64 e1)).set0 (.int .u8 1); have g0 := (D0.out.new hb1).rd.c0; have g1 := (D0.out.new hb1).rd.c1; have g2 := (D0.out.new hb1).rd.c2; have f0 := (D0.out.new hb1).rd.fz 0; have f1 := (D0.out.new hb1).rd.fz 1; have f2 := (D0.out.new hb1).rd.fz 2; have v0 := ((D0.out.new hb1).putR (.slice A P.length c) (.int .i64 a1) (.int .i64 e1)).ev.c0; have q0 := ((D0.out.new hb1).putR (.slice A P.length c) (.int .i64 a1) (.int .i64 e1)).ev.fz 0; have r0 := D1.rd.c0; have r1 := D1.rd.c1; have r2 := D1.rd.c2; have hz1 := D1.ev.lt)
    | (go_at_call 99; (with_reducible refine (tkBlobN A P c a1 e1 64 a1 e1 rfl rfl _ (hp.new D1.below) hl hla1 (by decide) K a2 e2 H2.out).mono ?_); rintro s2 w2 ⟨A2, c2, rfl, hn2⟩; have DB2 := D1.new hn2.below; have DC2 := DB2.set1 (.slice A2 K.length c2); have D2 := DC2.putR (.slice A P.length c) (.int .i64 a2) (.int .i64 e2); have v1 := DB2.ev.c1; have q1 := DB2.ev.fz 1; have g0 := DC2.rd.c0; have g1 := DC2.rd.c1; have g2 := DC2.rd.c2; have f0 := DC2.rd.fz 0; have f1 := DC2.rd.fz 1; have f2 := DC2.rd.fz 2; have r0 := D2.rd.c0; have r1 := D2.rd.c1; have r2 := D2.rd.c2; have hz2 := D2.ev.lt; have K2 := Lib.hid ((hn2.own.low (g := w.heap.size + 1 + 1 + 1) (j := 1) (u := .slice A2 K.length c2) (by omega)).low3 (g := w.heap.size) (x := .slice A P.length c) (y := .int .i64 a2) (z := .int .i64 e2) (by omega)))
    | (go_at_call 99; go_loud (with_reducible refine (tkBlobN A P c a2 e2 256 a2 e2 rfl rfl _ (hp.new D2.below) hl hla2 (by decide) V a3 e3 H3.out).mono ?_); rintro s3 w3 ⟨A3, c3, rfl, hn3⟩; have DB3 := D2.new hn3.below; have DC3 := DB3.set2 (.slice A3 V.length c3); have D3 := DC3.putR (.slice A P.length c) (.int .i64 a3) (.int .i64 e3); have v2 := DB3.ev.c2; have q2 := DB3.ev.fz 2; have g0 := DC3.rd.c0; have g1 := DC3.rd.c1; have g2 := DC3.rd.c2; have f0 := DC3.rd.fz 0; have f1 := DC3.rd.fz 1; have f2 := DC3.rd.fz 2; have r0 := D3.rd.c0; have r1 := D3.rd.c1; have r2 := D3.rd.c2; have u0 := D3.ev.c0; have u1 := D3.ev.c1; have u2 := D3.ev.c2; have hz3 := D3.ev.lt; have K3 := Lib.hid (((K2.out.new hn3.below).low (g := w.heap.size + 1 + 1 + 1) (j := 2) (u := .slice A3 V.length c3) (by omega)).low3 (g := w.heap.size) (x := .slice A P.length c) (y := .int .i64 a3) (z := .int .i64 e3) (by omega)); have V3 := Lib.hid ((hn3.own.low (g := w.heap.size + 1 + 1 + 1) (j := 2) (u := .slice A3 V.length c3) (by omega)).low3 (g := w.heap.size) (x := .slice A P.length c) (y := .int .i64 a3) (z := .int .i64 e3) (by omega)); have n0 := D3.en.c0; have n1 := D3.en.c1; have n2 := D3.en.c2; have p0 := D3.en.fz 0; have p1 := D3.en.fz 1; have p2 := D3.en.fz 2; have t0 := D3.rr.c0; have t1 := D3.rr.c1; have t2 := D3.rr.c2; have l0 := D3.rr.fz 0; have l1 := D3.rr.fz 1; have l2 := D3.rr.fz 2))
  go_region
  all_goals
    go_wp2
    have E4 := (D3.en.put (.int .u8 1) (.slice A2 K.length c2) (.slice A3 V.length c3)).other3 (g := w.heap.size + 1 + 1) (u := .slice A P.length c) (v := .int .i64 a3) (t := .int .i64 e3) (by omega)
    have R4 := (D3.rr.other3 (g := w.heap.size + 1) (u := .int .u8 1) (v := .slice A2 K.length c2) (t := .slice A3 V.length c3) (by omega)).put (.slice A P.length c) (.int .i64 a3) (.int .i64 e3)
    have hs2 := hn2.below.size
    have K4 := ((K3.out.low3 (g := w.heap.size + 1) (x := .int .u8 1) (y := .slice A2 K.length c2) (z := .slice A3 V.length c3) (by omega)).low3 (g := w.heap.size + 1 + 1) (x := .slice A P.length c) (y := .int .i64 a3) (z := .int .i64 e3) (by omega)).mono D1.below.size
    have V4 := ((V3.out.low3 (g := w.heap.size + 1) (x := .int .u8 1) (y := .slice A2 K.length c2) (z := .slice A3 V.length c3) (by omega)).low3 (g := w.heap.size + 1 + 1) (x := .slice A P.length c) (y := .int .i64 a3) (z := .int .i64 e3) (by omega)).mono D2.below.size
    have B4 := (D3.below.trans (put3_below (g := w.heap.size + 1) (by omega) (.int .u8 1) (.slice A2 K.length c2) (.slice A3 V.length c3))).trans (put3_below (g := w.heap.size + 1 + 1) (by omega) (.slice A P.length c) (.int .i64 a3) (.int .i64 e3))
    exact bodyPost_ret (results_tk rfl _ _ (w.heap.size + 1) (w.heap.size + 1 + 1) _ _ _ _ _ _ rfl rfl E4.drew R4.drew) rfl ⟨⟨A2, c2, A3, c3⟩, rfl, K4.new (below_drew _ _), V4.new (below_drew _ _), B4.drew⟩
set_option maxHeartbeats 400000 in
set_option maxRecDepth 100000 in
theorem dtake_del (A : Option Addr) (P : List UInt8) (c at_ e : Nat) (T E : Int) (hT : T = at_) (hE : E = e) (w : World) (hp : RB w A c P) (hl : P.length ≤ 140737488355328) (hat : at_ ≤ P.length) (a1 e1 a2 e2 : Nat) (K : List UInt8) (h1 : numS P at_ e 1 = (2, a1, e1)) (h2 : blobS P a1 e1 64 = (K, a2, e2)) :
    Calls Try.prog 71 #[.agg #[.slice A P.length c, .int .i64 T, .int .i64 E]] w fun r w' => ∃ a : EnA, r = .returned (.tuple #[.agg #[.int .u8 2, .slice a.KA K.length a.kc, .slice a.VA 0 a.vc], .agg #[.slice A P.length c, .int .i64 a2, .int .i64 e2]]) ∧ NewE w w' ⟨2, K, []⟩ a := by
  subst hT; subst hE
  have D0 := Lib.hid (DT.start w (.slice A P.length c) (.int .i64 at_) (.int .i64 e))
  have hla1 : a1 ≤ P.length := by have := numS_le P at_ e 1 hat; rw [h1] at this; exact this
  have hla2 : a2 ≤ P.length := by have := blobS_le P a1 e1 64 hla1; rw [h2] at this; exact this
  have hl2 : P.length ≤ 9223372036854775807 := by omega
  have H1 := Lib.hid h1
  have H2 := Lib.hid h2
  have c1 := Lib.hid (show (1 : Int) = ((1 : Nat) : Int) from rfl)
  have x0 := D0.out.rd.c0
  have x1 := D0.out.rd.c1
  have x2 := D0.out.rd.c2
  clear h1 h2
  go_enter Try.func71, Try.ntmps71
  go_wp2_with (first
    | (go_at_call 98; go_loud (with_reducible refine (tkWideN A P c at_ e 1 at_ e 1 rfl rfl c1.out _ (hp.new D0.out.below) hl2 hat (by decide) 2 a1 e1 H1.out).mono ?_); rintro r1 w1 ⟨rfl, hb1⟩; have D1 := ((D0.out.new hb1).putR (.slice A P.length c) (.int .i64 a1) (.int .i64 e1)).set0 (.int .u8 2); have g0 := (D0.out.new hb1).rd.c0; have g1 := (D0.out.new hb1).rd.c1; have g2 := (D0.out.new hb1).rd.c2; have f0 := (D0.out.new hb1).rd.fz 0; have f1 := (D0.out.new hb1).rd.fz 1; have f2 := (D0.out.new hb1).rd.fz 2; have v0 := ((D0.out.new hb1).putR (.slice A P.length c) (.int .i64 a1) (.int .i64 e1)).ev.c0; have q0 := ((D0.out.new hb1).putR (.slice A P.length c) (.int .i64 a1) (.int .i64 e1)).ev.fz 0; have r0 := D1.rd.c0; have r1 := D1.rd.c1; have r2 := D1.rd.c2; have hz1 := D1.ev.lt)
    | (go_at_call 99; (with_reducible refine (tkBlobN A P c a1 e1 64 a1 e1 rfl rfl _ (hp.new D1.below) hl hla1 (by decide) K a2 e2 H2.out).mono ?_); rintro s2 w2 ⟨A2, c2, rfl, hn2⟩; have DB2 := D1.new hn2.below; have DC2 := DB2.set1 (.slice A2 K.length c2); have D2 := DC2.putR (.slice A P.length c) (.int .i64 a2) (.int .i64 e2); have v1 := DB2.ev.c1; have q1 := DB2.ev.fz 1; have g0 := DC2.rd.c0; have g1 := DC2.rd.c1; have g2 := DC2.rd.c2; have f0 := DC2.rd.fz 0; have f1 := DC2.rd.fz 1; have f2 := DC2.rd.fz 2; have r0 := D2.rd.c0; have r1 := D2.rd.c1; have r2 := D2.rd.c2; have hz2 := D2.ev.lt; have K2 := Lib.hid ((hn2.own.low (g := w.heap.size + 1 + 1 + 1) (j := 1) (u := .slice A2 K.length c2) (by omega)).low3 (g := w.heap.size) (x := .slice A P.length c) (y := .int .i64 a2) (z := .int .i64 e2) (by omega)); have u0 := D2.ev.c0; have u1 := D2.ev.c1; have u2 := D2.ev.c2; have n0 := D2.en.c0; have n1 := D2.en.c1; have n2 := D2.en.c2; have p0 := D2.en.fz 0; have p1 := D2.en.fz 1; have p2 := D2.en.fz 2; have t0 := D2.rr.c0; have t1 := D2.rr.c1; have t2 := D2.rr.c2; have l0 := D2.rr.fz 0; have l1 := D2.rr.fz 1; have l2 := D2.rr.fz 2))
  go_region
  all_goals
    go_wp2
    have E4 := (D2.en.put (.int .u8 2) (.slice A2 K.length c2) (.slice none 0 0)).other3 (g := w.heap.size + 1 + 1) (u := .slice A P.length c) (v := .int .i64 a2) (t := .int .i64 e2) (by omega)
    have R4 := (D2.rr.other3 (g := w.heap.size + 1) (u := .int .u8 2) (v := .slice A2 K.length c2) (t := .slice none 0 0) (by omega)).put (.slice A P.length c) (.int .i64 a2) (.int .i64 e2)
    have K4 := ((K2.out.low3 (g := w.heap.size + 1) (x := .int .u8 2) (y := .slice A2 K.length c2) (z := .slice none 0 0) (by omega)).low3 (g := w.heap.size + 1 + 1) (x := .slice A P.length c) (y := .int .i64 a2) (z := .int .i64 e2) (by omega)).mono D1.below.size
    have B4 := (D2.below.trans (put3_below (g := w.heap.size + 1) (by omega) (.int .u8 2) (.slice A2 K.length c2) (.slice none 0 0))).trans (put3_below (g := w.heap.size + 1 + 1) (by omega) (.slice A P.length c) (.int .i64 a2) (.int .i64 e2))
    exact bodyPost_ret (results_tk rfl _ _ (w.heap.size + 1) (w.heap.size + 1 + 1) _ _ _ _ _ _ rfl rfl E4.drew R4.drew) rfl ⟨⟨A2, c2, none, 0⟩, rfl, K4.new (below_drew _ _), OB.nil _ _ _, B4.drew⟩
set_option maxHeartbeats 400000 in
set_option maxRecDepth 100000 in
theorem dtake_odd (A : Option Addr) (P : List UInt8) (c at_ e : Nat) (T E : Int) (hT : T = at_) (hE : E = e) (w : World) (hp : RB w A c P) (hl : P.length ≤ 140737488355328) (hat : at_ ≤ P.length) (kv a1 e1 a2 e2 : Nat) (k1 : kv ≠ 1) (k2 : kv ≠ 2) (K : List UInt8) (h1 : numS P at_ e 1 = (kv, a1, e1)) (h2 : blobS P a1 (failE e1 3) 64 = (K, a2, e2)) :
    Calls Try.prog 71 #[.agg #[.slice A P.length c, .int .i64 T, .int .i64 E]] w fun r w' => ∃ a : EnA, r = .returned (.tuple #[.agg #[.int .u8 kv, .slice a.KA K.length a.kc, .slice a.VA 0 a.vc], .agg #[.slice A P.length c, .int .i64 a2, .int .i64 e2]]) ∧ NewE w w' ⟨kv, K, []⟩ a := by
  subst hT; subst hE
  have D0 := Lib.hid (DT.start w (.slice A P.length c) (.int .i64 at_) (.int .i64 e))
  have hla1 : a1 ≤ P.length := by have := numS_le P at_ e 1 hat; rw [h1] at this; exact this
  have hla2 : a2 ≤ P.length := by have := blobS_le P a1 (failE e1 3) 64 hla1; rw [h2] at this; exact this
  have hl2 : P.length ≤ 9223372036854775807 := by omega
  have H1 := Lib.hid h1
  have H2 := Lib.hid h2
  have hkv : kv ≤ 255 := by have := numS_lt P at_ e 1; rw [h1] at this; simp at this; omega
  have b1 : ((kv : Int) != 1) = true := by rw [bne_iff_ne]; omega
  have b2 : ((kv : Int) != 2) = true := by rw [bne_iff_ne]; omega
  have b3 : ((kv : Int) == 1) = false := by rw [beq_eq_false_iff_ne]; omega
  have c3 := Lib.hid (show (3 : Int) = ((3 : Nat) : Int) from rfl)
  have c1 := Lib.hid (show (1 : Int) = ((1 : Nat) : Int) from rfl)
  have x0 := D0.out.rd.c0
  have x1 := D0.out.rd.c1
  have x2 := D0.out.rd.c2
  clear h1 h2 k1 k2
  go_enter Try.func71, Try.ntmps71
  go_wp2_with (first
    | (go_at_call 98; go_loud (with_reducible refine (tkWideN A P c at_ e 1 at_ e 1 rfl rfl c1.out _ (hp.new D0.out.below) hl2 hat (by decide) kv a1 e1 H1.out).mono ?_); rintro r1 w1 ⟨rfl, hb1⟩; have D1 := ((D0.out.new hb1).putR (.slice A P.length c) (.int .i64 a1) (.int .i64 e1)); have g0 := (D0.out.new hb1).rd.c0; have g1 := (D0.out.new hb1).rd.c1; have g2 := (D0.out.new hb1).rd.c2; have f0 := (D0.out.new hb1).rd.fz 0; have f1 := (D0.out.new hb1).rd.fz 1; have f2 := (D0.out.new hb1).rd.fz 2; have r0 := D1.rd.c0; have r1 := D1.rd.c1; have r2 := D1.rd.c2; have hz1 := D1.ev.lt)
    | (go_at_call 69; go_loud (with_reducible refine (failed_calls A P.length c a1 3 e1 3 c3.out e1 rfl _).mono ?_); rintro s9 w9 ⟨rfl, hb9⟩; have DA9 := D1.new hb9; have DB9 := DA9.putR (.slice A P.length c) (.int .i64 a1) (.int .i64 (failE e1 3)); have D9 := DB9.set0 (.int .u8 kv); have g0 := DA9.rd.c0; have g1 := DA9.rd.c1; have g2 := DA9.rd.c2; have f0 := DA9.rd.fz 0; have f1 := DA9.rd.fz 1; have f2 := DA9.rd.fz 2; have v0 := DB9.ev.c0; have q0 := DB9.ev.fz 0; have r0 := D9.rd.c0; have r1 := D9.rd.c1; have r2 := D9.rd.c2; have hz9 := D9.ev.lt)
    | (go_at_call 99; (with_reducible refine (tkBlobN A P c a1 (failE e1 3) 64 a1 (failE e1 3) rfl rfl _ (hp.new D9.below) hl hla1 (by decide) K a2 e2 H2.out).mono ?_); rintro s2 w2 ⟨A2, c2, rfl, hn2⟩; have DB2 := D9.new hn2.below; have DC2 := DB2.set1 (.slice A2 K.length c2); have D2 := DC2.putR (.slice A P.length c) (.int .i64 a2) (.int .i64 e2); have v1 := DB2.ev.c1; have q1 := DB2.ev.fz 1; have g0 := DC2.rd.c0; have g1 := DC2.rd.c1; have g2 := DC2.rd.c2; have f0 := DC2.rd.fz 0; have f1 := DC2.rd.fz 1; have f2 := DC2.rd.fz 2; have r0 := D2.rd.c0; have r1 := D2.rd.c1; have r2 := D2.rd.c2; have hz2 := D2.ev.lt; have K2 := Lib.hid ((hn2.own.low (g := w.heap.size + 1 + 1 + 1) (j := 1) (u := .slice A2 K.length c2) (by omega)).low3 (g := w.heap.size) (x := .slice A P.length c) (y := .int .i64 a2) (z := .int .i64 e2) (by omega)); have u0 := D2.ev.c0; have u1 := D2.ev.c1; have u2 := D2.ev.c2; have n0 := D2.en.c0; have n1 := D2.en.c1; have n2 := D2.en.c2; have p0 := D2.en.fz 0; have p1 := D2.en.fz 1; have p2 := D2.en.fz 2; have t0 := D2.rr.c0; have t1 := D2.rr.c1; have t2 := D2.rr.c2; have l0 := D2.rr.fz 0; have l1 := D2.rr.fz 1; have l2 := D2.rr.fz 2))
  go_region
  all_goals
    go_wp2
    have E4 := (D2.en.put (.int .u8 kv) (.slice A2 K.length c2) (.slice none 0 0)).other3 (g := w.heap.size + 1 + 1) (u := .slice A P.length c) (v := .int .i64 a2) (t := .int .i64 e2) (by omega)
    have R4 := (D2.rr.other3 (g := w.heap.size + 1) (u := .int .u8 kv) (v := .slice A2 K.length c2) (t := .slice none 0 0) (by omega)).put (.slice A P.length c) (.int .i64 a2) (.int .i64 e2)
    have K4 := ((K2.out.low3 (g := w.heap.size + 1) (x := .int .u8 kv) (y := .slice A2 K.length c2) (z := .slice none 0 0) (by omega)).low3 (g := w.heap.size + 1 + 1) (x := .slice A P.length c) (y := .int .i64 a2) (z := .int .i64 e2) (by omega)).mono D9.below.size
    have B4 := (D2.below.trans (put3_below (g := w.heap.size + 1) (by omega) (.int .u8 kv) (.slice A2 K.length c2) (.slice none 0 0))).trans (put3_below (g := w.heap.size + 1 + 1) (by omega) (.slice A P.length c) (.int .i64 a2) (.int .i64 e2))
    exact bodyPost_ret (results_tk rfl _ _ (w.heap.size + 1) (w.heap.size + 1 + 1) _ _ _ _ _ _ rfl rfl E4.drew R4.drew) rfl ⟨⟨A2, c2, none, 0⟩, rfl, K4.new (below_drew _ _), OB.nil _ _ _, B4.drew⟩
theorem dtake_calls (A : Option Addr) (P : List UInt8) (n c at_ e : Nat) (T E : Int) (hT : T = at_) (hE : E = e) (w : World) (hp : RB w A c P) (hn : n = P.length) (hl : P.length ≤ 140737488355328) (hat : at_ ≤ P.length) (t : TkR) (ht : takeR P at_ e = t) :
    Calls Try.prog 71 #[.agg #[.slice A n c, .int .i64 T, .int .i64 E]] w fun r w' => ∃ a : EnA, r = .returned (.tuple #[.agg #[.int .u8 t.v.k, .slice a.KA t.v.K.length a.kc, .slice a.VA t.v.V.length a.vc], .agg #[.slice A n c, .int .i64 t.at_, .int .i64 t.e]]) ∧ NewE w w' t.v a := by
  subst hn; subst ht
  unfold takeR
  obtain ⟨kv, a1, e1, h1⟩ : ∃ kv a1 e1, numS P at_ e 1 = (kv, a1, e1) := ⟨_, _, _, rfl⟩
  rw [h1]
  simp only
  by_cases k1 : kv = 1
  · subst k1
    rw [if_pos rfl]
    exact dtake_put A P c at_ e T E hT hE w hp hl hat a1 e1 _ _ _ _ _ _ h1 rfl rfl
  · rw [if_neg k1]
    by_cases k2 : kv = 2
    · subst k2
      rw [if_pos rfl]
      exact dtake_del A P c at_ e T E hT hE w hp hl hat a1 e1 _ _ _ h1 rfl
    · rw [if_neg k2]
      exact dtake_odd A P c at_ e T E hT hE w hp hl hat kv a1 e1 _ _ k1 k2 _ h1 rfl
theorem takeR_le (P : List UInt8) (at_ e : Nat) (h : at_ ≤ P.length) : (takeR P at_ e).at_ ≤ P.length := by
  have h1 := numS_le P at_ e 1 h
  unfold takeR
  split
  · exact blobS_le _ _ _ _ (blobS_le _ _ _ _ h1)
  · split
    · exact blobS_le _ _ _ _ h1
    · exact blobS_le _ _ _ _ h1
theorem blobS_bad (P : List UInt8) (at_ e : Nat) (m : Int) (h : e ≠ 0) : blobS P at_ e m = ([], at_, e) := by
  unfold WireMath.blobS; rw [if_pos h]
theorem numS_bad (P : List UInt8) (at_ e : Nat) (h : (numS P at_ e 1).2.2 ≠ 0) : (numS P at_ e 1).1 = 0 := by
  unfold WireMath.numS at h ⊢
  split
  · rfl
  · split
    · rfl
    · rename_i h1 h2; rw [if_neg h1, if_neg h2] at h; exact absurd rfl h
/-- both say the same of an entry -/
theorem takeR_entS (P : List UInt8) (at_ : Nat) : (takeR P at_ 0).e = (entS P at_).e ∧ ((entS P at_).e = 0 → (takeR P at_ 0).v = (entS P at_).v ∧ (takeR P at_ 0).at_ = (entS P at_).at_) := by
  unfold takeR entS
  by_cases h : (numS P at_ 0 1).2.2 ≠ 0
  · have h0 := numS_bad P at_ 0 h
    rw [if_pos h, if_neg (by omega), if_neg (by omega)]
    have hf : failE (numS P at_ 0 1).2.2 3 = (numS P at_ 0 1).2.2 := by unfold failE; rw [if_neg h]
    rw [hf, blobS_bad _ _ _ _ h]
    exact ⟨rfl, fun h9 => absurd h9 h⟩
  · rw [if_neg h]
    have h' : (numS P at_ 0 1).2.2 = 0 := by omega
    rw [h']
    by_cases k1 : (numS P at_ 0 1).1 = 1
    · rw [if_pos k1, if_neg (by omega)]
      by_cases hb : (blobS P (numS P at_ 0 1).2.1 0 64).2.2 ≠ 0
      · rw [if_pos hb, blobS_bad _ _ _ _ hb]
        exact ⟨rfl, fun h9 => absurd h9 hb⟩
      · rw [if_neg hb, if_pos k1]
        have hb' : (blobS P (numS P at_ 0 1).2.1 0 64).2.2 = 0 := by omega
        rw [hb']
        by_cases hv : (blobS P (blobS P (numS P at_ 0 1).2.1 0 64).2.1 0 256).2.2 ≠ 0
        · rw [if_pos hv]
          exact ⟨rfl, fun h9 => absurd h9 hv⟩
        · rw [if_neg hv]
          have hv' : (blobS P (blobS P (numS P at_ 0 1).2.1 0 64).2.1 0 256).2.2 = 0 := by omega
          exact ⟨hv', fun _ => ⟨rfl, rfl⟩⟩
    · rw [if_neg k1]
      by_cases k2 : (numS P at_ 0 1).1 = 2
      · rw [if_pos k2, if_neg (by omega)]
        by_cases hb : (blobS P (numS P at_ 0 1).2.1 0 64).2.2 ≠ 0
        · rw [if_pos hb]
          exact ⟨rfl, fun h9 => absurd h9 hb⟩
        · rw [if_neg hb, if_neg k1]
          have hb' : (blobS P (numS P at_ 0 1).2.1 0 64).2.2 = 0 := by omega
          exact ⟨hb', fun _ => ⟨rfl, rfl⟩⟩
      · rw [if_neg k2, if_pos ⟨k1, k2⟩]
        have hf : failE 0 3 = 3 := rfl
        rw [hf, blobS_bad _ _ _ _ (by decide)]
        exact ⟨rfl, fun h9 => absurd h9 (by decide)⟩
end Go.Proofs.Ytelecdncdaepnaa
