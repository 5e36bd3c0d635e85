/-
  Walks of the reference of the layer config (in, Check, Largest, Budget).
-/
import Derived.Test.YtohlaginanbclaaProg
import Derived.Test.YtohlaginanbclaaBase
import Derived.Test.YtohlaginanbclaaPlain
import Derived.WalkSpells
import Derived.WalkLawsBesides
import Derived.Laws.EntriesVeiled
namespace Go.Proofs.Ytohlaginanbclaa
open Go.RowKit

theorem refIn_any (n a b : Int) (w : World) : Calls Try.prog 45 #[.int .i64 n, .int .i64 a, .int .i64 b] w fun e w' => e = .returned (.bool (decide (a ≤ n) && decide (n ≤ b))) ∧ w = w' := by
  go_enter Try.func45, Try.ntmps45
  go_wp2
  all_goals
    go_ret
    exact ⟨rb (by first | (simp [*]; done) | (simp [*]; omega)), rfl⟩

set_option maxHeartbeats 400000 in
theorem refCheck_any (C N S K Q : Int) (w : World) :
    Calls Try.prog 33 #[.agg #[.int .i64 C, .int .i64 N, .int .i64 S, .int .i64 K, .int .i64 Q]] w (Ret (.int .i64 (cfgE C N S K Q)) w) := by
  go_enter Try.func33, Try.ntmps33
  go_wp2_with (go_at_call 45; refine (refIn_any _ _ _ _).mono ?_; rintro e w1 ⟨rfl, rfl⟩)
  all_goals
    go_ret
    refine ⟨ri ?_, by (repeat (first | exact Below.refl _ _ | (refine below_new ?_ (Nat.le_refl _) _) | (refine below_drewN ?_ _) | (refine Below.drew ?_) | (refine below_call (by assumption) ?_ (Nat.le_refl _)) | (refine below_set ?_ (by simp) _)))⟩
    unfold cfgE cfgB
    first | rw [if_pos (decide_eq_true (by omega))] | rw [if_neg (by rw [decide_eq_true_iff]; omega)]

theorem cfgE_ok {C N S K Q : Int} (h : cfgB C N S K Q = true) : cfgE C N S K Q = 0 := by unfold cfgE; rw [if_pos h]
theorem cfgE_no {C N S K Q : Int} (h : cfgB C N S K Q = false) : cfgE C N S K Q = 7 := by unfold cfgE; rw [if_neg (by rw [h]; decide)]
theorem refCheck_ok (C N S K Q : Int) (w : World) (h : cfgB C N S K Q = true) :
    Calls Try.prog 33 #[.agg #[.int .i64 C, .int .i64 N, .int .i64 S, .int .i64 K, .int .i64 Q]] w (Ret (.int .i64 0) w) := by rw [← cfgE_ok h]; exact refCheck_any C N S K Q w
theorem refCheck_no (C N S K Q : Int) (w : World) (h : cfgB C N S K Q = false) :
    Calls Try.prog 33 #[.agg #[.int .i64 C, .int .i64 N, .int .i64 S, .int .i64 K, .int .i64 Q]] w (Ret (.int .i64 7) w) := by rw [← cfgE_no h]; exact refCheck_any C N S K Q w

set_option maxHeartbeats 400000 in
theorem refLargest_ok (C N S K Q : Int) (w : World) (h : cfgB C N S K Q = true) :
    Calls Try.prog 17 #[.agg #[.int .i64 C, .int .i64 N, .int .i64 S, .int .i64 K, .int .i64 Q]] w (Ret (.tuple #[.int .i64 (larg C S), .int .i64 0]) w) := by
  obtain ⟨⟨_, _⟩, ⟨_, _⟩, ⟨_, _⟩, ⟨_, _⟩, _, _⟩ := cfgB_true.1 h
  have HB := Lib.hid h
  clear h
  go_enter Try.func17, Try.ntmps17
  go_wp2_with (go_at_call 33; refine (refCheck_ok _ _ _ _ _ _ HB.out).mono ?_; rintro e w1 ⟨rfl, hb1⟩; obtain ⟨hc1, hf1⟩ := bcell hb1)
  all_goals
    go_ret2
    exact ⟨ri2 (by unfold larg; omega) rfl, by (repeat (first | exact Below.refl _ _ | (refine below_new ?_ (Nat.le_refl _) _) | (refine below_drewN ?_ _) | (refine Below.drew ?_) | (refine below_call (by assumption) ?_ (Nat.le_refl _)) | (refine below_set ?_ (by simp) _)))⟩

set_option maxHeartbeats 400000 in
theorem refLargest_no (C N S K Q : Int) (w : World) (h : cfgB C N S K Q = false) :
    Calls Try.prog 17 #[.agg #[.int .i64 C, .int .i64 N, .int .i64 S, .int .i64 K, .int .i64 Q]] w (Ret (.tuple #[.int .i64 0, .int .i64 7]) w) := by
  have HB := Lib.hid h
  clear h
  go_enter Try.func17, Try.ntmps17
  go_wp2_with (go_at_call 33; refine (refCheck_no _ _ _ _ _ _ HB.out).mono ?_; rintro e w1 ⟨rfl, hb1⟩; obtain ⟨hc1, hf1⟩ := bcell hb1)
  go_ret2
  exact ⟨rfl, by (repeat (first | exact Below.refl _ _ | (refine below_new ?_ (Nat.le_refl _) _) | (refine below_drewN ?_ _) | (refine Below.drew ?_) | (refine below_call (by assumption) ?_ (Nat.le_refl _)) | (refine below_set ?_ (by simp) _)))⟩

set_option maxHeartbeats 400000 in
theorem refBudget_ok (C N S K Q : Int) (w : World) (h : cfgB C N S K Q = true) :
    Calls Try.prog 28 #[.agg #[.int .i64 C, .int .i64 N, .int .i64 S, .int .i64 K, .int .i64 Q]] w (Ret (.tuple #[.int .i64 (bud C N), .int .i64 0]) w) := by
  obtain ⟨⟨c1, c2⟩, ⟨n1, n2⟩, ⟨_, _⟩, ⟨_, _⟩, _, _⟩ := cfgB_true.1 h
  obtain ⟨b1, b2, B3⟩ := budget_bounds c1 c2 n1 n2
  have b4 : 8 ≤ C * (N - 6) := by rw [Int.mul_comm]; exact b1
  have b5 : C * (N - 6) ≤ 1152 := by rw [Int.mul_comm]; exact b2
  have HB := Lib.hid h
  clear h B3
  go_enter Try.func28, Try.ntmps28
  go_wp2_with (go_at_call 33; refine (refCheck_ok _ _ _ _ _ _ HB.out).mono ?_; rintro e w1 ⟨rfl, hb1⟩; obtain ⟨hc1, hf1⟩ := bcell hb1)
  go_ret2
  exact ⟨ri2 (by unfold bud; exact Int.mul_comm _ _) rfl, by (repeat (first | exact Below.refl _ _ | (refine below_new ?_ (Nat.le_refl _) _) | (refine below_drewN ?_ _) | (refine Below.drew ?_) | (refine below_call (by assumption) ?_ (Nat.le_refl _)) | (refine below_set ?_ (by simp) _)))⟩

set_option maxHeartbeats 400000 in
theorem refBudget_no (C N S K Q : Int) (w : World) (h : cfgB C N S K Q = false) :
    Calls Try.prog 28 #[.agg #[.int .i64 C, .int .i64 N, .int .i64 S, .int .i64 K, .int .i64 Q]] w (Ret (.tuple #[.int .i64 0, .int .i64 7]) w) := by
  have HB := Lib.hid h
  clear h
  go_enter Try.func28, Try.ntmps28
  go_wp2_with (go_at_call 33; refine (refCheck_no _ _ _ _ _ _ HB.out).mono ?_; rintro e w1 ⟨rfl, hb1⟩; obtain ⟨hc1, hf1⟩ := bcell hb1)
  go_ret2
  exact ⟨rfl, by (repeat (first | exact Below.refl _ _ | (refine below_new ?_ (Nat.le_refl _) _) | (refine below_drewN ?_ _) | (refine Below.drew ?_) | (refine below_call (by assumption) ?_ (Nat.le_refl _)) | (refine below_set ?_ (by simp) _)))⟩
end Go.Proofs.Ytohlaginanbclaa
