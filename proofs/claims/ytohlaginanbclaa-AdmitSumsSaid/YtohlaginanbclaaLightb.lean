/-
  Walks of the layer admit: light, Slack, Cars.
-/
import Derived.Test.YtohlaginanbclaaLight
namespace Go.Proofs.Ytohlaginanbclaa
open Go.RowKit

set_option maxHeartbeats 1000000 in
theorem light_no (C N S K Q o : Int) (w : World) (hc : ¬ CfgOk C N S K Q) :
    Calls Try.prog 34 #[.agg #[.int .i64 C, .int .i64 N, .int .i64 S, .int .i64 K, .int .i64 Q], .int .i64 o] w (Ret (.tuple #[.agg #[.int .i64 C, .int .i64 N, .int .i64 S, .int .i64 K, .int .i64 Q, .int .i64 o, .int .i64 0], .int .i64 7]) w) := by
  go_enter Try.func34, Try.ntmps34
  go_wp2_with (first | (go_at_call 38; refine (cfgCheck_no _ _ _ _ _ _ hc).mono ?_; rintro e w1 ⟨rfl, hb1⟩; obtain ⟨hc1, hf1⟩ := bcell hb1))
  have hfin : Below w.heap.size w w1 := below_call hb1 (below_new (below_new (below_new (Below.refl _ _) (Nat.le_refl _) _) (Nat.le_refl _) _) (Nat.le_refl _) _) (Nat.le_refl _)
  refine bodyPost_ret (v := .tuple #[.agg #[.int .i64 C, .int .i64 N, .int .i64 S, .int .i64 K, .int .i64 Q, .int .i64 o, .int .i64 0], .int .i64 7]) ?_ rfl ?_
  · simp [results, Try.results34, go_sem, hc1]
  · refine ⟨rfl, ?_⟩
    iterate 7 (with_reducible refine below_set ?_ (by simp) _)
    exact hfin

theorem light_any (C N S K Q o : Int) (w : World) :
    Calls Try.prog 34 #[.agg #[.int .i64 C, .int .i64 N, .int .i64 S, .int .i64 K, .int .i64 Q], .int .i64 o] w (Ret (.tuple #[.agg #[.int .i64 C, .int .i64 N, .int .i64 S, .int .i64 K, .int .i64 Q, .int .i64 o, .int .i64 0], .int .i64 (occE C N S K Q o)]) w) := by
  cases h : cfgB C N S K Q
  · rw [occE_no (by rw [h]; rfl)]; exact light_no C N S K Q o w (cfgB_false.1 h)
  · have := light_yes C N S K Q o w (cfgB_true.1 h)
    have e : (bif occB C N S o then (0 : Int) else 7) = occE C N S K Q o := by unfold occE; rw [h]; cases occB C N S o <;> rfl
    rw [e] at this; exact this
theorem light_val {C N S K Q o x : Int} (w : World) (h : occE C N S K Q o = x) :
    Calls Try.prog 34 #[.agg #[.int .i64 C, .int .i64 N, .int .i64 S, .int .i64 K, .int .i64 Q], .int .i64 o] w (Ret (.tuple #[.agg #[.int .i64 C, .int .i64 N, .int .i64 S, .int .i64 K, .int .i64 Q, .int .i64 o, .int .i64 0], .int .i64 x]) w) := by
  rw [← h]; exact light_any C N S K Q o w

set_option maxHeartbeats 1000000 in
theorem slack_pub (C N S K Q o : Int) (w : World) : Calls Try.prog 18 #[.agg #[.int .i64 C, .int .i64 N, .int .i64 S, .int .i64 K, .int .i64 Q], .int .i64 o] w (Ret (.tuple #[.int .i64 (slackN C N S K Q o), .int .i64 (occE C N S K Q o)]) w) := by
  cases h : (cfgB C N S K Q && occB C N S o)
  · have H : Hid (occE C N S K Q o = 7) := occE_no h
    rw [occE_no h, show slackN C N S K Q o = 0 by unfold slackN; rw [h]; rfl]
    clear h
    go_enter Try.func18, Try.ntmps18
    go_wp2_with (first | (go_at_call 34; refine (light_val _ H.out).mono ?_; rintro e w1 ⟨rfl, hb1⟩))
    go_ret2
    exact ⟨rfl, by (repeat (first | exact Below.refl _ _ | (refine below_new ?_ (Nat.le_refl _) _) | (refine below_drewN ?_ _) | (refine Below.drew ?_) | (refine below_call (by assumption) ?_ (Nat.le_refl _)) | (refine below_set ?_ (by simp) _)))⟩
  · have H : Hid (occE C N S K Q o = 0) := occE_ok h
    rw [occE_ok h, show slackN C N S K Q o = slk C N o by unfold slackN; rw [h]; rfl]
    rw [Bool.and_eq_true] at h
    have hco := cfgB_true.1 h.1
    have hoo := occB_true.1 h.2
    clear h
    go_enter Try.func18, Try.ntmps18
    go_wp2_with (first | (go_at_call 34; refine (light_val _ H.out).mono ?_; rintro e w1 ⟨rfl, hb1⟩; obtain ⟨hc1, hf1⟩ := bcell hb1) | (go_at_call 32; refine (stSlack_any _ _ _ _ _ _ _ _ hco hoo).mono ?_; rintro e w2 ⟨rfl, hb2⟩))
    go_ret2
    exact ⟨rfl, by (repeat (first | exact Below.refl _ _ | (refine below_new ?_ (Nat.le_refl _) _) | (refine below_drewN ?_ _) | (refine Below.drew ?_) | (refine below_call (by assumption) ?_ (Nat.le_refl _)) | (refine below_set ?_ (by simp) _)))⟩

set_option maxHeartbeats 1000000 in
theorem cars_pub (C N S K Q o : Int) (w : World) : Calls Try.prog 25 #[.agg #[.int .i64 C, .int .i64 N, .int .i64 S, .int .i64 K, .int .i64 Q], .int .i64 o] w (Ret (.tuple #[.int .i64 (carsN C N S K Q o), .int .i64 (occE C N S K Q o)]) w) := by
  cases h : (cfgB C N S K Q && occB C N S o)
  · have H : Hid (occE C N S K Q o = 7) := occE_no h
    rw [occE_no h, show carsN C N S K Q o = 0 by unfold carsN; rw [h]; rfl]
    clear h
    go_enter Try.func25, Try.ntmps25
    go_wp2_with (first | (go_at_call 34; refine (light_val _ H.out).mono ?_; rintro e w1 ⟨rfl, hb1⟩))
    go_ret2
    exact ⟨rfl, by (repeat (first | exact Below.refl _ _ | (refine below_new ?_ (Nat.le_refl _) _) | (refine below_drewN ?_ _) | (refine Below.drew ?_) | (refine below_call (by assumption) ?_ (Nat.le_refl _)) | (refine below_set ?_ (by simp) _)))⟩
  · have H : Hid (occE C N S K Q o = 0) := occE_ok h
    rw [occE_ok h, show carsN C N S K Q o = 2 * o / C + 5 by unfold carsN; rw [h]; rfl]
    rw [Bool.and_eq_true] at h
    obtain ⟨⟨c1, c2⟩, ⟨n1, n2⟩, ⟨_, _⟩, ⟨_, _⟩, _, _⟩ := cfgB_true.1 h.1
    obtain ⟨b1, b2⟩ := prod_bounds c1 c2 n1 n2
    obtain ⟨o1, o2⟩ := occB_true.1 h.2
    have d1 : 0 ≤ 2 * o / C := Int.ediv_nonneg (by omega) (by omega)
    have d2 : 2 * o / C ≤ 2 * o := Int.ediv_le_self _ (by omega)
    have c0 : (C == 0) = false := by simp; omega
    clear h
    go_enter Try.func25, Try.ntmps25
    go_wp2_with (first | (go_at_call 34; refine (light_val _ H.out).mono ?_; rintro e w1 ⟨rfl, hb1⟩; obtain ⟨hc1, hf1⟩ := bcell hb1; have hz1 := sz_lt hb1))
    go_ret2
    exact ⟨ri2 (by omega) rfl, by (repeat (first | exact Below.refl _ _ | (refine below_new ?_ (Nat.le_refl _) _) | (refine below_drewN ?_ _) | (refine Below.drew ?_) | (refine below_call (by assumption) ?_ (Nat.le_refl _)) | (refine below_set ?_ (by simp) _)))⟩
end Go.Proofs.Ytohlaginanbclaa
