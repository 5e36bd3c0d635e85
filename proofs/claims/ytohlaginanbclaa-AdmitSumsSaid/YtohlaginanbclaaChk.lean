/-
  Walk of the layer admit: check of a state.
-/
import Derived.Test.YtohlaginanbclaaSt
import Derived.IntWalk
namespace Go.Proofs.Ytohlaginanbclaa
open Go.RowKit

set_option maxHeartbeats 1000000 in
theorem stCheck_raw (C N S K Q o l : Int) (w : World) (hc : CfgOk C N S K Q) :
    Calls Try.prog 29 #[.agg #[.int .i64 C, .int .i64 N, .int .i64 S, .int .i64 K, .int .i64 Q, .int .i64 o, .int .i64 l]] w (Ret (.int .i64 (bif occB C N S o then bif wrongB S o l then 7 else 0 else 7)) w) := by
  go_enter Try.func29, Try.ntmps29
  go_wp2_with (first | (go_at_call 38; refine (cfgCheck_ok _ _ _ _ _ _ hc).mono ?_; rintro e w1 ⟨rfl, hb1⟩; obtain ⟨hc1, hf1⟩ := bcell hb1))
  have hz1 : w.heap.size < w1.heap.size := by have := hb1.size; simp at this; omega
  have hS : w1.cell? ⟨w.heap.size, 0, none⟩ = some (.int .i64 C) ∧ w1.cell? ⟨w.heap.size, 1, none⟩ = some (.int .i64 N) ∧ w1.cell? ⟨w.heap.size, 2, none⟩ = some (.int .i64 S) ∧ w1.cell? ⟨w.heap.size, 3, none⟩ = some (.int .i64 K) ∧ w1.cell? ⟨w.heap.size, 4, none⟩ = some (.int .i64 Q) ∧ w1.cell? ⟨w.heap.size, 5, none⟩ = some (.int .i64 o) ∧ w1.cell? ⟨w.heap.size, 6, none⟩ = some (.int .i64 l) ∧ w.heap.size < w1.heap.size ∧ Below w.heap.size w w1 := by
    refine ⟨?_, ?_, ?_, ?_, ?_, ?_, ?_, hz1, below_call hb1 (below_new (Below.refl _ _) (Nat.le_refl _) _) (Nat.le_refl _)⟩ <;> (rw [hc1 _ _ (by simp)]; simp)
  clear hc1 hf1 hz1 hb1
  go_region_held3 (fun w' => w'.cell? ⟨w.heap.size, 0, none⟩ = some (.int .i64 C) ∧ w'.cell? ⟨w.heap.size, 1, none⟩ = some (.int .i64 N) ∧ w'.cell? ⟨w.heap.size, 2, none⟩ = some (.int .i64 S) ∧ w'.cell? ⟨w.heap.size, 3, none⟩ = some (.int .i64 K) ∧ w'.cell? ⟨w.heap.size, 4, none⟩ = some (.int .i64 Q) ∧ w'.cell? ⟨w.heap.size, 5, none⟩ = some (.int .i64 o) ∧ w'.cell? ⟨w.heap.size, 6, none⟩ = some (.int .i64 l) ∧ w.heap.size < w'.heap.size ∧ Below w.heap.size w w')
    (first | exact held7_drew hS | exact held7_call (by assumption) (by assumption) (Nat.le_refl _) | exact held7_new (by assumption) (Nat.le_refl _) _ | (trace "KEEP"; trace_state; fail))
    (first | (go_at_call 40; refine (heavy_any _ _ _ _ _ _ _ _ hc).mono ?_; rintro e wa ⟨rfl, hba⟩) | (go_at_call 41; refine (wrong_any _ _ _ _ _ _ _ _).mono ?_; rintro e wa ⟨rfl, hba⟩) | (go_at_call 39; refine (first2 _ (!occB C N S o) (wrongB S o l) 7 7 _ (by simp) (by simp) (by simp) (by simp) (by simp)).mono ?_; rintro e wa ⟨rfl, hba⟩))
  go_wp2
  go_ret
  obtain ⟨_, _, _, _, _, _, _, _, hl⟩ := ‹_ ∧ _ ∧ _ ∧ _ ∧ _ ∧ _ ∧ _ ∧ _ ∧ Below _ _ _›
  exact ⟨rfl, by assumption⟩

theorem stB_eq {C N S K Q o l : Int} (hc : CfgOk C N S K Q) : (bif occB C N S o then bif wrongB S o l then (7 : Int) else 0 else 7) = if stB C N S o l then 0 else 7 := by
  obtain ⟨⟨c1, c2⟩, ⟨n1, n2⟩, ⟨s1, s2⟩, ⟨_, _⟩, _, _⟩ := hc
  obtain ⟨b1, b2⟩ := prod_bounds c1 c2 n1 n2
  cases h : stB C N S o l
  · rw [stB_false] at h
    cases ho : occB C N S o
    · rfl
    · rw [occB_true] at ho
      obtain ⟨o1, o2⟩ := ho
      have hw : wrongB S o l = true := by
        unfold wrongB
        by_cases l1 : l < 0
        · simp [l1]
        · by_cases l2 : S < l
          · simp [l2]
          · have l3 : o + l < S := by
              by_cases l3 : o + l < S
              · exact l3
              · exact absurd ⟨⟨o1, o2⟩, by omega, by omega, by omega⟩ h
            rw [IntWalk.wrap64_in _ (by omega)]
            simp [l3]
      rw [hw]; rfl
  · rw [stB_true] at h
    obtain ⟨⟨o1, o2⟩, l1, l2, l3⟩ := h
    have ho : occB C N S o = true := occB_true.2 ⟨o1, o2⟩
    have hw : wrongB S o l = false := by
      unfold wrongB
      rw [IntWalk.wrap64_in _ (by omega)]
      simp; omega
    rw [ho, hw]; rfl

theorem stCheck_any (C N S K Q o l : Int) (w : World) (hc : CfgOk C N S K Q) :
    Calls Try.prog 29 #[.agg #[.int .i64 C, .int .i64 N, .int .i64 S, .int .i64 K, .int .i64 Q, .int .i64 o, .int .i64 l]] w (Ret (.int .i64 (if stB C N S o l then 0 else 7)) w) := by
  rw [← stB_eq hc]; exact stCheck_raw C N S K Q o l w hc

set_option maxHeartbeats 400000 in
theorem stCheck_bad (C N S K Q o l : Int) (w : World) (hc : ¬ CfgOk C N S K Q) :
    Calls Try.prog 29 #[.agg #[.int .i64 C, .int .i64 N, .int .i64 S, .int .i64 K, .int .i64 Q, .int .i64 o, .int .i64 l]] w (Ret (.int .i64 7) w) := by
  go_enter Try.func29, Try.ntmps29
  go_wp2_with (first | (go_at_call 38; refine (cfgCheck_no _ _ _ _ _ _ hc).mono ?_; rintro e w1 ⟨rfl, hb1⟩; obtain ⟨hc1, hf1⟩ := bcell hb1))
  go_ret
  exact ⟨rfl, by (repeat (first | exact Below.refl _ _ | (refine below_new ?_ (Nat.le_refl _) _) | (refine below_drewN ?_ _) | (refine Below.drew ?_) | (refine below_call (by assumption) ?_ (Nat.le_refl _)) | (refine below_set ?_ (by simp) _)))⟩

/-- The check of a state, whatever the numbers are. -/
theorem stCheck (C N S K Q o l : Int) (w : World) : Calls Try.prog 29 #[.agg #[.int .i64 C, .int .i64 N, .int .i64 S, .int .i64 K, .int .i64 Q, .int .i64 o, .int .i64 l]] w (Ret (.int .i64 (chkE C N S K Q o l)) w) := by
  unfold chkE
  cases h : cfgB C N S K Q
  · exact stCheck_bad C N S K Q o l w (cfgB_false.1 h)
  · exact stCheck_any C N S K Q o l w (cfgB_true.1 h)
end Go.Proofs.Ytohlaginanbclaa
