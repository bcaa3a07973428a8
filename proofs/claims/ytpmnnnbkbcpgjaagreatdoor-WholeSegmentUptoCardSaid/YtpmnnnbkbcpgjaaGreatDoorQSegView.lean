import Derived.Test.YtpmnnnbkbcpgjaaGreatDoorQSegRead
import Derived.Test.YtpmnnnbkbcpgjaaGreatDoorQSegDocRead
import Derived.DeepKeys
/- A list of batches as it reads; two heads that are equal. -/
namespace Go.Proofs.YtpmnnnbkbcpgjaaGreatDoor
open Go.RowKit

theorem addr_succ (a : Addr) (i : Nat) : a.add (i + 1) = ⟨(a.add i).block, (a.add i).off + 1, none⟩ := by
  unfold Addr.add
  rw [if_neg (Nat.succ_ne_zero i)]
  by_cases h : i = 0
  · rw [if_pos h]; subst h; rfl
  · rw [if_neg h]; simp [Nat.add_assoc]
/-- a batch as it reads -/
structure BvV where
  f : Nat
  A : Option Addr
  c : Nat
  es : List EnX
def BvV.fst (b : BvV) : Nat × List En := (b.f, ensOf b.es)
structure Bats (w : World) (A : Option Addr) (bs : List BvV) : Prop where
  out : ∀ i (h : i < bs.length), ∃ a, A = some a ∧ w.cell? (a.add (i * 2)) = some (.int .u64 bs[i].f) ∧ w.cell? (a.add (i * 2 + 1)) = some (.slice bs[i].A bs[i].es.length bs[i].c)
  ok : ∀ b ∈ bs, Ents w b.A b.es
theorem Bats.new {w w' : World} {A : Option Addr} {bs : List BvV} (h : Bats w A bs) (hb : Below w.heap.size w w') : Bats w' A bs := by
  refine ⟨fun i hi => ?_, fun b hm => (h.ok b hm).new hb⟩
  obtain ⟨a, ha, h0, h1⟩ := h.out i hi
  have hc : ∀ j u, w.cell? (a.add j) = some u → w'.cell? (a.add j) = some u := fun j u hu => (hb.cell (World.block_lt_of_cell? w _ hu)).trans hu
  exact ⟨a, ha, hc _ _ h0, hc _ _ h1⟩
theorem Bats.at_ {w : World} {A : Option Addr} {bs : List BvV} (h : Bats w A bs) (i : Nat) (hi : i < bs.length) : ∃ a b, A = some a ∧ bs[i]? = some b ∧ b ∈ bs ∧ Ents w b.A b.es ∧ w.cell? (a.add (i * 2)) = some (.int .u64 b.f) ∧ w.cell? (a.add (i * 2 + 1)) = some (.slice b.A b.es.length b.c) := by
  obtain ⟨a, ha, h0, h1⟩ := h.out i hi
  exact ⟨a, bs[i], ha, List.getElem?_eq_getElem hi, List.getElem_mem hi, h.ok _ (List.getElem_mem hi), h0, h1⟩
def BtV.view (b : BtV) : BvV := ⟨b.f, b.A, b.c, b.es⟩
theorem view_fst (bs : List BtV) : (bs.map BtV.view).map BvV.fst = bs.map BtV.fst := by
  rw [List.map_map]; rfl
theorem BL.view {w : World} {base n c : Nat} {A : Option Addr} {bs : List BtV} (h : BL w base (.slice A n c) bs) : Bats w A (bs.map BtV.view) := by
  refine ⟨fun i hi => ?_, fun b hb => ?_⟩
  · have hi' : i < bs.length := by simpa using hi
    obtain ⟨g, c', hv, _, h0, h1, _⟩ := h.get i bs[i] (List.getElem?_eq_getElem hi')
    have e : A = some ⟨g, 0, none⟩ := by injection hv
    refine ⟨⟨g, 0, none⟩, e, ?_, ?_⟩
    · rw [addr_at, Nat.zero_add]; simpa [BtV.view] using h0
    · rw [addr_at, Nat.zero_add]; simpa [BtV.view, BtV.val] using h1
  · obtain ⟨d, hd, rfl⟩ := List.mem_map.1 hb
    exact (h.at_ d hd).ents

theorem run_equalHD (w : World) (n e f x : Int) : (Op.equalIn 10000 41 (.agg #[.int .u64 n, .int .u64 e, .int .u64 f, .int .i64 x]) (.agg #[.int .u64 n, .int .u64 e, .int .u64 f, .int .i64 x])).run Tryz.prog w = .ok true w := by
  rw [run_equalIn_struct w 9999 41 _ _ (by kernel_rfl) (by kernel_rfl)]
  have hu := fun w => run_underlying (P := Tryz.prog) Tryz.underlying3 w
  have hu2 := fun w => run_underlying (P := Tryz.prog) Tryz.underlying22 w
  have h0 := fun w m => run_equalIn_int (P := Tryz.prog) w 9998 22 .u64 .u64 m m Tryz.underlying22
  have h1 := fun w => run_equalIn_int (P := Tryz.prog) w 9998 3 .i64 .i64 x x Tryz.underlying3
  rw [show (9998 + 1 : Nat) = 9999 from rfl] at h0 h1
  simp [Program.fieldsOf, Tryz.underlying41, Op.eqFields, part, isAgg, hu, hu2, h0, h1]
theorem run_equalHS (w : World) (n e f x : Int) : (Op.equalIn 10000 32 (.agg #[.int .u64 n, .int .u64 e, .int .u64 f, .int .i64 x]) (.agg #[.int .u64 n, .int .u64 e, .int .u64 f, .int .i64 x])).run Tryz.prog w = .ok true w := by
  rw [run_equalIn_struct w 9999 32 _ _ (by kernel_rfl) (by kernel_rfl)]
  have hu := fun w => run_underlying (P := Tryz.prog) Tryz.underlying3 w
  have hu2 := fun w => run_underlying (P := Tryz.prog) Tryz.underlying22 w
  have h0 := fun w m => run_equalIn_int (P := Tryz.prog) w 9998 22 .u64 .u64 m m Tryz.underlying22
  have h1 := fun w => run_equalIn_int (P := Tryz.prog) w 9998 3 .i64 .i64 x x Tryz.underlying3
  rw [show (9998 + 1 : Nat) = 9999 from rfl] at h0 h1
  simp [Program.fieldsOf, Tryz.underlying32, Op.eqFields, part, isAgg, hu, hu2, h0, h1]
end Go.Proofs.YtpmnnnbkbcpgjaaGreatDoor
