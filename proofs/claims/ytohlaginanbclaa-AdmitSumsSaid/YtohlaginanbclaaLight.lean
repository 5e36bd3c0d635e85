/-
  Walks of the layer admit: light, Slack, Cars.
-/
import Derived.Test.YtohlaginanbclaaAdm
import Derived.Deep.RegionWith
namespace Go.Proofs.Ytohlaginanbclaa
open Go.RowKit

theorem light_six {W wa : World} {b : Nat} {v0 v1 v2 v3 v4 v5 v6 : Value} (hba : Below W.heap.size W wa) (h : W.cell? ⟨b, 0, none⟩ = some v0 ∧ W.cell? ⟨b, 1, none⟩ = some v1 ∧ W.cell? ⟨b, 2, none⟩ = some v2 ∧ W.cell? ⟨b, 3, none⟩ = some v3 ∧ W.cell? ⟨b, 4, none⟩ = some v4 ∧ W.cell? ⟨b, 5, none⟩ = some v5 ∧ W.cell? ⟨b, 6, none⟩ = some v6 ∧ b < W.heap.size) : wa.cell? ⟨b, 0, none⟩ = some v0 ∧ wa.cell? ⟨b, 1, none⟩ = some v1 ∧ wa.cell? ⟨b, 2, none⟩ = some v2 ∧ wa.cell? ⟨b, 3, none⟩ = some v3 ∧ wa.cell? ⟨b, 4, none⟩ = some v4 ∧ wa.cell? ⟨b, 5, none⟩ = some v5 ∧ wa.cell? ⟨b, 6, none⟩ = some v6 ∧ b < wa.heap.size := by
  obtain ⟨h0, h1, h2, h3, h4, h5, h6, hz⟩ := h
  exact ⟨(hba.cell (p := ⟨b, 0, none⟩) hz).trans h0, (hba.cell (p := ⟨b, 1, none⟩) hz).trans h1, (hba.cell (p := ⟨b, 2, none⟩) hz).trans h2, (hba.cell (p := ⟨b, 3, none⟩) hz).trans h3, (hba.cell (p := ⟨b, 4, none⟩) hz).trans h4, (hba.cell (p := ⟨b, 5, none⟩) hz).trans h5, (hba.cell (p := ⟨b, 6, none⟩) hz).trans h6, Nat.lt_of_lt_of_le hz hba.size⟩
theorem light_new {W : World} {b : Nat} {v0 v1 v2 v3 v4 v5 v6 : Value} (ob : Obj) (h : W.cell? ⟨b, 0, none⟩ = some v0 ∧ W.cell? ⟨b, 1, none⟩ = some v1 ∧ W.cell? ⟨b, 2, none⟩ = some v2 ∧ W.cell? ⟨b, 3, none⟩ = some v3 ∧ W.cell? ⟨b, 4, none⟩ = some v4 ∧ W.cell? ⟨b, 5, none⟩ = some v5 ∧ W.cell? ⟨b, 6, none⟩ = some v6 ∧ b < W.heap.size) : (W.alloc ob).cell? ⟨b, 0, none⟩ = some v0 ∧ (W.alloc ob).cell? ⟨b, 1, none⟩ = some v1 ∧ (W.alloc ob).cell? ⟨b, 2, none⟩ = some v2 ∧ (W.alloc ob).cell? ⟨b, 3, none⟩ = some v3 ∧ (W.alloc ob).cell? ⟨b, 4, none⟩ = some v4 ∧ (W.alloc ob).cell? ⟨b, 5, none⟩ = some v5 ∧ (W.alloc ob).cell? ⟨b, 6, none⟩ = some v6 ∧ b < (W.alloc ob).heap.size :=
  light_six ((Below.refl _ _).alloc (Nat.le_refl _) ob) h
theorem light_facts {w1 wa wb : World} {ob : Obj} {b : Nat} (hba : Below w1.drew.heap.size w1.drew wa) (hbb : Below (wa.alloc ob).heap.size (wa.alloc ob) wb) (hz : b < w1.heap.size)
    (hT : ∀ i : Nat, i < 7 → w1.cell? ⟨b, i, none⟩ = some (.int .i64 0) ∧ w1.frozen? ⟨b, i, none⟩ = false) (i : Nat) (hi : i < 7) : wb.cell? ⟨b, i, none⟩ = some (.int .i64 0) ∧ wb.frozen? ⟨b, i, none⟩ = false := by
  have hbt : Below w1.heap.size w1 wb := below_call hbb (below_new (below_call hba (Below.drew (Below.refl _ _)) (Nat.le_refl _)) (Nat.le_refl _) _) (Nat.le_refl _)
  exact ⟨(hbt.cell (p := ⟨b, i, none⟩) hz).trans (hT i hi).1, (hbt.frozen (p := ⟨b, i, none⟩) hz).trans (hT i hi).2⟩

set_option maxHeartbeats 2000000 in
theorem light_yes (C N S K Q o : Int) (w : World) (hc : CfgOk C N S K Q) :
    Calls Try.prog 34 #[.agg #[.int .i64 C, .int .i64 N, .int .i64 S, .int .i64 K, .int .i64 Q], .int .i64 o] w (Ret (.tuple #[.agg #[.int .i64 C, .int .i64 N, .int .i64 S, .int .i64 K, .int .i64 Q, .int .i64 o, .int .i64 0], .int .i64 (bif occB C N S o then 0 else 7)]) w) := by
  go_enter Try.func34, Try.ntmps34
  go_wp2_with (first | (go_at_call 38; refine (cfgCheck_ok _ _ _ _ _ _ hc).mono ?_; rintro e w1 ⟨rfl, hb1⟩; obtain ⟨hc1, hf1⟩ := bcell hb1))
  have hz1 : w.heap.size + 1 + 1 < w1.heap.size := by have := hb1.size; simp at this; omega
  have hS : w1.cell? ⟨w.heap.size + 1 + 1, 0, none⟩ = some (.int .i64 C) ∧ w1.cell? ⟨w.heap.size + 1 + 1, 1, none⟩ = some (.int .i64 N) ∧ w1.cell? ⟨w.heap.size + 1 + 1, 2, none⟩ = some (.int .i64 S) ∧ w1.cell? ⟨w.heap.size + 1 + 1, 3, none⟩ = some (.int .i64 K) ∧ w1.cell? ⟨w.heap.size + 1 + 1, 4, none⟩ = some (.int .i64 Q) ∧ w1.cell? ⟨w.heap.size + 1 + 1, 5, none⟩ = some (.int .i64 o) ∧ w1.cell? ⟨w.heap.size + 1 + 1, 6, none⟩ = some (.int .i64 0) ∧ w.heap.size + 1 + 1 < w1.heap.size := by
    refine ⟨?_, ?_, ?_, ?_, ?_, ?_, ?_, hz1⟩ <;> (rw [hc1 _ _ (by simp)]; go_simp)
  have HS := Lib.hid hS
  clear hS
  have hT : ∀ i : Nat, i < 7 → w1.cell? ⟨w.heap.size + 1, i, none⟩ = some (.int .i64 0) ∧ w1.frozen? ⟨w.heap.size + 1, i, none⟩ = false := by
    intro i hi
    have hi' : i = 0 ∨ i = 1 ∨ i = 2 ∨ i = 3 ∨ i = 4 ∨ i = 5 ∨ i = 6 := by omega
    rcases hi' with rfl | rfl | rfl | rfl | rfl | rfl | rfl <;> exact ⟨by rw [hc1 _ _ (by simp)]; go_simp, by rw [hf1 _ _ (by simp)]; go_simp⟩
  have HT := Lib.hid hT
  clear hT
  have hz1' : w.heap.size + 1 < w1.heap.size := Nat.lt_of_succ_lt hz1
  have hz1'' : w.heap.size < w1.heap.size := Nat.lt_of_succ_lt hz1'
  go_region_with (first | (go_at_call 40; refine (heavy_any _ _ _ _ _ _ _ _ hc).mono ?_; rintro e wa ⟨rfl, hba⟩; have HSa := Lib.hid (light_six hba HS.out); obtain ⟨p0, p1, p2, p3, p4, p5, p6, hza⟩ := HSa.out; have hza' : w.heap.size + 1 < wa.heap.size := Nat.lt_of_succ_lt hza; have hza'' : w.heap.size < wa.heap.size := Nat.lt_of_succ_lt hza') | (go_at_call 39; refine (first1 _ (!occB C N S o) 7 _ (by simp) (by simp)).mono ?_; rintro e wb ⟨rfl, hbb⟩; obtain ⟨r0, r1, r2, r3, r4, r5, r6, hzb⟩ := light_six hbb (light_new _ HSa.out); obtain ⟨q0, f0⟩ := light_facts hba hbb hz1' HT.out 0 (by decide); obtain ⟨q1, f1⟩ := light_facts hba hbb hz1' HT.out 1 (by decide); obtain ⟨q2, f2⟩ := light_facts hba hbb hz1' HT.out 2 (by decide); obtain ⟨q3, f3⟩ := light_facts hba hbb hz1' HT.out 3 (by decide); obtain ⟨q4, f4⟩ := light_facts hba hbb hz1' HT.out 4 (by decide); obtain ⟨q5, f5⟩ := light_facts hba hbb hz1' HT.out 5 (by decide); obtain ⟨q6, f6⟩ := light_facts hba hbb hz1' HT.out 6 (by decide)))
  all_goals
    clear hc1 hf1 HS HT r0 r1 r2 r3 r4 r5 r6 p0 p1 p2 p3 p4 p5 p6 HSa
    go_wp2
    have hfin : Below w.heap.size w wb := below_call hbb (below_new (below_call hba (Below.drew (below_call hb1 (below_new (below_new (below_new (Below.refl _ _) (Nat.le_refl _) _) (Nat.le_refl _) _) (Nat.le_refl _) _) (Nat.le_refl _))) (Nat.le_refl _)) (Nat.le_refl _) _) (Nat.le_refl _)
    refine bodyPost_ret (v := .tuple #[.agg #[.int .i64 C, .int .i64 N, .int .i64 S, .int .i64 K, .int .i64 Q, .int .i64 o, .int .i64 0], .int .i64 (bif occB C N S o then 0 else 7)]) ?_ rfl ?_
    · simp [results, Try.results34, go_sem, q0, q1, q2, q3, q4, q5, q6]
    · refine ⟨rfl, ?_⟩
      iterate 7 (with_reducible refine below_set ?_ (by simp) _)
      exact hfin
end Go.Proofs.Ytohlaginanbclaa
