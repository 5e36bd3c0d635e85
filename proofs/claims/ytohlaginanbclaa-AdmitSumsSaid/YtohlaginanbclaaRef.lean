/-
  Walks of the reference of the layer admit: occupied, Check, asked, admitted, Admit, After, Slack, Cars.
-/
import Derived.Test.YtohlaginanbclaaRefc
import Derived.Test.YtohlaginanbclaaPlain2
import Derived.IntWalk
namespace Go.Proofs.Ytohlaginanbclaa
open Go.RowKit

theorem occE_no1 {C N S K Q o : Int} (h : cfgB C N S K Q = false) : occE C N S K Q o = 7 := by unfold occE; rw [h]; rfl
theorem occE_yes {C N S K Q o : Int} (h : cfgB C N S K Q = true) : occE C N S K Q o = if occB C N S o then 0 else 7 := by unfold occE; rw [h]; rfl
set_option maxHeartbeats 1000000 in
theorem refOcc (C N S K Q o : Int) (w : World) : Calls Try.prog 37 #[.agg #[.int .i64 C, .int .i64 N, .int .i64 S, .int .i64 K, .int .i64 Q], .int .i64 o] w (Ret (.int .i64 (occE C N S K Q o)) w) := by
  cases h : cfgB C N S K Q
  · rw [occE_no1 h]
    have H := Lib.hid h
    clear h
    go_enter Try.func37, Try.ntmps37
    go_wp2_with (first | (go_at_call 33; refine (refCheck_no _ _ _ _ _ _ H.out).mono ?_; rintro e w1 ⟨rfl, hb1⟩; obtain ⟨hc1, hf1⟩ := bcell hb1))
    go_ret
    exact ⟨rfl, by (repeat (first | exact Below.refl _ _ | (refine below_new ?_ (Nat.le_refl _) _) | (refine below_drewN ?_ _) | (refine Below.drew ?_) | (refine below_call (by assumption) ?_ (Nat.le_refl _)) | (refine below_set ?_ (by simp) _)))⟩
  · obtain ⟨⟨c1, c2⟩, ⟨n1, n2⟩, ⟨_, _⟩, ⟨_, _⟩, _, _⟩ := cfgB_true.1 h
    obtain ⟨b1, b2⟩ := prod_bounds c1 c2 n1 n2
    have H := Lib.hid h
    clear h
    go_enter Try.func37, Try.ntmps37
    go_wp2_with (first | (go_at_call 33; refine (refCheck_ok _ _ _ _ _ _ H.out).mono ?_; rintro e w1 ⟨rfl, hb1⟩; obtain ⟨hc1, hf1⟩ := bcell hb1))
    all_goals
      go_ret
      refine ⟨ri ?_, by (repeat (first | exact Below.refl _ _ | (refine below_new ?_ (Nat.le_refl _) _) | (refine below_drewN ?_ _) | (refine Below.drew ?_) | (refine below_call (by assumption) ?_ (Nat.le_refl _)) | (refine below_set ?_ (by simp) _)))⟩
      rw [occE_yes H.out]
      first | rw [if_pos (occB_true.2 ⟨by omega, by omega⟩)] | rw [if_neg (by rw [occB_true]; unfold OccOk; omega)]
theorem refOcc_val {C N S K Q o x : Int} (w : World) (h : occE C N S K Q o = x) : Calls Try.prog 37 #[.agg #[.int .i64 C, .int .i64 N, .int .i64 S, .int .i64 K, .int .i64 Q], .int .i64 o] w (Ret (.int .i64 x) w) := by rw [← h]; exact refOcc C N S K Q o w

set_option maxHeartbeats 1000000 in
theorem refChk (C N S K Q o l : Int) (w : World) : Calls Try.prog 21 #[.agg #[.int .i64 C, .int .i64 N, .int .i64 S, .int .i64 K, .int .i64 Q], .int .i64 o, .int .i64 l] w (Ret (.int .i64 (chkE C N S K Q o l)) w) := by
  cases h : (cfgB C N S K Q && occB C N S o)
  · have H : Hid (occE C N S K Q o = 7) := occE_no h
    rw [chkE_of_occ h]
    clear h
    go_enter Try.func21, Try.ntmps21
    go_wp2_with (first | (go_at_call 37; refine (refOcc_val _ H.out).mono ?_; rintro e w1 ⟨rfl, hb1⟩; obtain ⟨hc1, hf1⟩ := bcell hb1))
    go_ret
    exact ⟨rfl, by (repeat (first | exact Below.refl _ _ | (refine below_new ?_ (Nat.le_refl _) _) | (refine below_drewN ?_ _) | (refine Below.drew ?_) | (refine below_call (by assumption) ?_ (Nat.le_refl _)) | (refine below_set ?_ (by simp) _)))⟩
  · have H : Hid (occE C N S K Q o = 0) := occE_ok h
    rw [Bool.and_eq_true] at h
    obtain ⟨⟨c1, c2⟩, ⟨n1, n2⟩, ⟨_, _⟩, ⟨_, _⟩, _, _⟩ := cfgB_true.1 h.1
    obtain ⟨b1, b2⟩ := prod_bounds c1 c2 n1 n2
    obtain ⟨o1, o2⟩ := occB_true.1 h.2
    have HC := Lib.hid h.1
    clear h
    go_enter Try.func21, Try.ntmps21
    go_wp2_with (first | (go_at_call 37; refine (refOcc_val _ H.out).mono ?_; rintro e w1 ⟨rfl, hb1⟩; obtain ⟨hc1, hf1⟩ := bcell hb1))
    all_goals
      go_ret
      refine ⟨ri ?_, by (repeat (first | exact Below.refl _ _ | (refine below_new ?_ (Nat.le_refl _) _) | (refine below_drewN ?_ _) | (refine Below.drew ?_) | (refine below_call (by assumption) ?_ (Nat.le_refl _)) | (refine below_set ?_ (by simp) _)))⟩
      unfold chkE
      rw [HC.out, Bool.true_and]
      first | rw [if_pos (stB_true.2 ⟨⟨by omega, by omega⟩, by omega, by omega, by omega⟩)] | rw [if_neg (by rw [stB_true]; unfold StOk; omega)]
theorem refChk_val {C N S K Q o l x : Int} (w : World) (h : chkE C N S K Q o l = x) : Calls Try.prog 21 #[.agg #[.int .i64 C, .int .i64 N, .int .i64 S, .int .i64 K, .int .i64 Q], .int .i64 o, .int .i64 l] w (Ret (.int .i64 x) w) := by rw [← h]; exact refChk C N S K Q o l w

set_option maxHeartbeats 1000000 in
theorem refAsked (C N S K Q o l n : Int) (w : World) : Calls Try.prog 35 #[.agg #[.int .i64 C, .int .i64 N, .int .i64 S, .int .i64 K, .int .i64 Q], .int .i64 o, .int .i64 l, .int .i64 n] w (Ret (.int .i64 (rOf (admE C N S K Q o l n))) w) := by
  cases h : (cfgB C N S K Q && stB C N S o l)
  · have H : Hid (chkE C N S K Q o l = 7) := chkE_no h
    rw [admE_no n h]
    clear h
    cases hc : cfgB C N S K Q
    all_goals
      have HC := Lib.hid hc
      clear hc
      go_enter Try.func35, Try.ntmps35
      go_wp2_with (first | (go_at_call 21; refine (refChk_val _ H.out).mono ?_; rintro e w1 ⟨rfl, hb1⟩; obtain ⟨hc1, hf1⟩ := bcell hb1) | (go_at_call 17; first | (refine (refLargest_no _ _ _ _ _ _ HC.out).mono ?_; rintro e w2 ⟨rfl, hb2⟩) | (refine (refLargest_ok _ _ _ _ _ _ HC.out).mono ?_; rintro e w2 ⟨rfl, hb2⟩)))
      go_ret
      exact ⟨rfl, by (repeat (first | exact Below.refl _ _ | (refine below_new ?_ (Nat.le_refl _) _) | (refine below_drewN ?_ _) | (refine Below.drew ?_) | (refine below_call (by assumption) ?_ (Nat.le_refl _)) | (refine below_set ?_ (by simp) _)))⟩
  · rw [Bool.and_eq_true] at h
    have H : Hid (chkE C N S K Q o l = 0) := chkE_ok h.1 h.2
    have HC := Lib.hid h.1
    have HE := Lib.hid (admE_yes n h.1 h.2)
    have hlb := larg_bounds (cfgB_true.1 h.1)
    clear h
    go_enter Try.func35, Try.ntmps35
    go_wp2_with (first | (go_at_call 21; refine (refChk_val _ H.out).mono ?_; rintro e w1 ⟨rfl, hb1⟩; obtain ⟨hc1, hf1⟩ := bcell hb1) | (go_at_call 17; refine (refLargest_ok _ _ _ _ _ _ HC.out).mono ?_; rintro e w2 ⟨rfl, hb2⟩))
    all_goals
      go_ret
      refine ⟨ri ?_, by (repeat (first | exact Below.refl _ _ | (refine below_new ?_ (Nat.le_refl _) _) | (refine below_drewN ?_ _) | (refine Below.drew ?_) | (refine below_call (by assumption) ?_ (Nat.le_refl _)) | (refine below_set ?_ (by simp) _)))⟩
      rw [HE.out]
      first | rw [rOf_1 (by omega)] | rw [rOf_2 (by omega) (by omega)] | rw [rOf_3 (by omega) (by omega)]
theorem refAsked_val {C N S K Q o l n x : Int} (w : World) (h : rOf (admE C N S K Q o l n) = x) : Calls Try.prog 35 #[.agg #[.int .i64 C, .int .i64 N, .int .i64 S, .int .i64 K, .int .i64 Q], .int .i64 o, .int .i64 l, .int .i64 n] w (Ret (.int .i64 x) w) := by rw [← h]; exact refAsked C N S K Q o l n w

set_option maxHeartbeats 1000000 in
theorem refAdmitted (C N S K Q o l n : Int) (w : World) (hc : cfgB C N S K Q = true) (hs : stB C N S o l = true) (h1 : 1 ≤ n) (h2 : n ≤ 64) :
    Calls Try.prog 36 #[.agg #[.int .i64 C, .int .i64 N, .int .i64 S, .int .i64 K, .int .i64 Q], .int .i64 o, .int .i64 l, .int .i64 n] w (Ret (.bool (!lackB C N o l n)) w) := by
  obtain ⟨⟨c1, c2⟩, ⟨n1, n2⟩, ⟨_, _⟩, ⟨_, _⟩, _, _⟩ := cfgB_true.1 hc
  obtain ⟨b1, b2⟩ := prod_bounds c1 c2 n1 n2
  obtain ⟨b4, b5, B6⟩ := budget_bounds c1 c2 n1 n2
  have b7 : 8 ≤ bud C N := b4
  have b8 : bud C N ≤ 1152 := b5
  obtain ⟨⟨o1, o2⟩, l1, l2, l3⟩ := stB_true.1 hs
  have HC := Lib.hid hc
  clear hc hs B6 b4 b5
  go_enter Try.func36, Try.ntmps36
  go_wp2_with (first | (go_at_call 28; refine (refBudget_ok _ _ _ _ _ _ HC.out).mono ?_; rintro e w1 ⟨rfl, hb1⟩))
  all_goals
    go_ret
    refine ⟨rb ?_, by (repeat (first | exact Below.refl _ _ | (refine below_new ?_ (Nat.le_refl _) _) | (refine below_drewN ?_ _) | (refine Below.drew ?_) | (refine below_call (by assumption) ?_ (Nat.le_refl _)) | (refine below_set ?_ (by simp) _)))⟩
    first | rw [lackB_iff h1] | (rw [lackB_iff h1]; simp; omega)
    try (simp; omega)
theorem refAdmitted_val {C N S K Q o l n : Int} {x : Bool} (w : World) (hc : cfgB C N S K Q = true) (hs : stB C N S o l = true) (h1 : 1 ≤ n) (h2 : n ≤ 64) (h : lackB C N o l n = !x) :
    Calls Try.prog 36 #[.agg #[.int .i64 C, .int .i64 N, .int .i64 S, .int .i64 K, .int .i64 Q], .int .i64 o, .int .i64 l, .int .i64 n] w (Ret (.bool x) w) := by
  have := refAdmitted C N S K Q o l n w hc hs h1 h2; rw [h, Bool.not_not] at this; exact this
end Go.Proofs.Ytohlaginanbclaa
