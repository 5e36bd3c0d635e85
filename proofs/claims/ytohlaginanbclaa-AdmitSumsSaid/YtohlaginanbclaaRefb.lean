/-
  Walks of the reference of the layer admit: Admit, After, Slack, Cars, Most.
-/
import Derived.Test.YtohlaginanbclaaRef
namespace Go.Proofs.Ytohlaginanbclaa
open Go.RowKit

set_option maxHeartbeats 1000000 in
theorem refAdmit (C N S K Q o l n : Int) (w : World) : Calls Try.prog 19 #[.agg #[.int .i64 C, .int .i64 N, .int .i64 S, .int .i64 K, .int .i64 Q], .int .i64 o, .int .i64 l, .int .i64 n] w (Ret (.tuple #[.int .i64 (kOf (admE C N S K Q o l n)), .int .i64 (rOf (admE C N S K Q o l n))]) w) := by
  rcases ask_cases C N S K Q o l n with h | h | ⟨h, hc, hs, h1, h2, h3, he⟩
  · have H : Hid (rOf (admE C N S K Q o l n) = 7) := by rw [h]; rfl
    rw [h]
    clear h
    go_enter Try.func19, Try.ntmps19
    go_wp2_with (first | (go_at_call 35; refine (refAsked_val _ H.out).mono ?_; rintro e w1 ⟨rfl, hb1⟩))
    go_ret2
    exact ⟨rfl, by (repeat (first | exact Below.refl _ _ | (refine below_new ?_ (Nat.le_refl _) _) | (refine below_drewN ?_ _) | (refine Below.drew ?_) | (refine below_call (by assumption) ?_ (Nat.le_refl _)) | (refine below_set ?_ (by simp) _)))⟩
  · have H : Hid (rOf (admE C N S K Q o l n) = 11) := by rw [h]; rfl
    rw [h]
    clear h
    go_enter Try.func19, Try.ntmps19
    go_wp2_with (first | (go_at_call 35; refine (refAsked_val _ H.out).mono ?_; rintro e w1 ⟨rfl, hb1⟩))
    go_ret2
    exact ⟨rfl, by (repeat (first | exact Below.refl _ _ | (refine below_new ?_ (Nat.le_refl _) _) | (refine below_drewN ?_ _) | (refine Below.drew ?_) | (refine below_call (by assumption) ?_ (Nat.le_refl _)) | (refine below_set ?_ (by simp) _)))⟩
  · rw [he]
    have H := Lib.hid h
    have HC := Lib.hid hc
    have HS := Lib.hid hs
    clear h he hc hs
    cases hk : lackB C N o l n
    · have HK : Hid (lackB C N o l n = !true) := hk
      clear hk
      go_enter Try.func19, Try.ntmps19
      go_wp2_with (first | (go_at_call 35; refine (refAsked_val _ H.out).mono ?_; rintro e w1 ⟨rfl, hb1⟩; obtain ⟨hc1, hf1⟩ := bcell hb1) | (go_at_call 36; refine (refAdmitted_val _ HC.out HS.out h1 h3 HK.out).mono ?_; rintro e w2 ⟨rfl, hb2⟩))
      go_ret2
      exact ⟨rfl, by (repeat (first | exact Below.refl _ _ | (refine below_new ?_ (Nat.le_refl _) _) | (refine below_drewN ?_ _) | (refine Below.drew ?_) | (refine below_call (by assumption) ?_ (Nat.le_refl _)) | (refine below_set ?_ (by simp) _)))⟩
    · have HK : Hid (lackB C N o l n = !false) := hk
      clear hk
      go_enter Try.func19, Try.ntmps19
      go_wp2_with (first | (go_at_call 35; refine (refAsked_val _ H.out).mono ?_; rintro e w1 ⟨rfl, hb1⟩; obtain ⟨hc1, hf1⟩ := bcell hb1) | (go_at_call 36; refine (refAdmitted_val _ HC.out HS.out h1 h3 HK.out).mono ?_; rintro e w2 ⟨rfl, hb2⟩))
      go_ret2
      exact ⟨rfl, by (repeat (first | exact Below.refl _ _ | (refine below_new ?_ (Nat.le_refl _) _) | (refine below_drewN ?_ _) | (refine Below.drew ?_) | (refine below_call (by assumption) ?_ (Nat.le_refl _)) | (refine below_set ?_ (by simp) _)))⟩

set_option maxHeartbeats 1000000 in
theorem refAfter (C N S K Q o l n : Int) (w : World) : Calls Try.prog 22 #[.agg #[.int .i64 C, .int .i64 N, .int .i64 S, .int .i64 K, .int .i64 Q], .int .i64 o, .int .i64 l, .int .i64 n] w (Ret (.int .i64 (admE C N S K Q o l n)) w) := by
  rcases ask_cases C N S K Q o l n with h | h | ⟨h, hc, hs, h1, h2, h3, he⟩
  · have H : Hid (rOf (admE C N S K Q o l n) = 7) := by rw [h]; rfl
    rw [h]
    clear h
    go_enter Try.func22, Try.ntmps22
    go_wp2_with (first | (go_at_call 35; refine (refAsked_val _ H.out).mono ?_; rintro e w1 ⟨rfl, hb1⟩))
    go_ret
    exact ⟨rfl, by (repeat (first | exact Below.refl _ _ | (refine below_new ?_ (Nat.le_refl _) _) | (refine below_drewN ?_ _) | (refine Below.drew ?_) | (refine below_call (by assumption) ?_ (Nat.le_refl _)) | (refine below_set ?_ (by simp) _)))⟩
  · have H : Hid (rOf (admE C N S K Q o l n) = 11) := by rw [h]; rfl
    rw [h]
    clear h
    go_enter Try.func22, Try.ntmps22
    go_wp2_with (first | (go_at_call 35; refine (refAsked_val _ H.out).mono ?_; rintro e w1 ⟨rfl, hb1⟩))
    go_ret
    exact ⟨rfl, by (repeat (first | exact Below.refl _ _ | (refine below_new ?_ (Nat.le_refl _) _) | (refine below_drewN ?_ _) | (refine Below.drew ?_) | (refine below_call (by assumption) ?_ (Nat.le_refl _)) | (refine below_set ?_ (by simp) _)))⟩
  · rw [he]
    have H := Lib.hid h
    have HC := Lib.hid hc
    have HS := Lib.hid hs
    clear h he hc hs
    cases hk : lackB C N o l n
    · have HK : Hid (lackB C N o l n = !true) := hk
      clear hk
      go_enter Try.func22, Try.ntmps22
      go_wp2_with (first | (go_at_call 35; refine (refAsked_val _ H.out).mono ?_; rintro e w1 ⟨rfl, hb1⟩; obtain ⟨hc1, hf1⟩ := bcell hb1) | (go_at_call 36; refine (refAdmitted_val _ HC.out HS.out h1 h3 HK.out).mono ?_; rintro e w2 ⟨rfl, hb2⟩))
      go_ret
      exact ⟨rfl, by (repeat (first | exact Below.refl _ _ | (refine below_new ?_ (Nat.le_refl _) _) | (refine below_drewN ?_ _) | (refine Below.drew ?_) | (refine below_call (by assumption) ?_ (Nat.le_refl _)) | (refine below_set ?_ (by simp) _)))⟩
    · have HK : Hid (lackB C N o l n = !false) := hk
      clear hk
      go_enter Try.func22, Try.ntmps22
      go_wp2_with (first | (go_at_call 35; refine (refAsked_val _ H.out).mono ?_; rintro e w1 ⟨rfl, hb1⟩; obtain ⟨hc1, hf1⟩ := bcell hb1) | (go_at_call 36; refine (refAdmitted_val _ HC.out HS.out h1 h3 HK.out).mono ?_; rintro e w2 ⟨rfl, hb2⟩))
      go_ret
      exact ⟨rfl, by (repeat (first | exact Below.refl _ _ | (refine below_new ?_ (Nat.le_refl _) _) | (refine below_drewN ?_ _) | (refine Below.drew ?_) | (refine below_call (by assumption) ?_ (Nat.le_refl _)) | (refine below_set ?_ (by simp) _)))⟩

set_option maxHeartbeats 1000000 in
theorem refSlack (C N S K Q o : Int) (w : World) : Calls Try.prog 24 #[.agg #[.int .i64 C, .int .i64 N, .int .i64 S, .int .i64 K, .int .i64 Q], .int .i64 o] w (Ret (.tuple #[.int .i64 (slackN C N S K Q o), .int .i64 (occE C N S K Q o)]) w) := by
  cases h : (cfgB C N S K Q && occB C N S o)
  · have H : Hid (occE C N S K Q o = 7) := occE_no h
    rw [occE_no h, show slackN C N S K Q o = 0 by unfold slackN; rw [h]; rfl]
    clear h
    go_enter Try.func24, Try.ntmps24
    go_wp2_with (first | (go_at_call 37; refine (refOcc_val _ H.out).mono ?_; rintro e w1 ⟨rfl, hb1⟩; obtain ⟨hc1, hf1⟩ := bcell hb1))
    go_ret2
    exact ⟨rfl, by (repeat (first | exact Below.refl _ _ | (refine below_new ?_ (Nat.le_refl _) _) | (refine below_drewN ?_ _) | (refine Below.drew ?_) | (refine below_call (by assumption) ?_ (Nat.le_refl _)) | (refine below_set ?_ (by simp) _)))⟩
  · have H : Hid (occE C N S K Q o = 0) := occE_ok h
    rw [occE_ok h, show slackN C N S K Q o = slk C N o by unfold slackN; rw [h]; rfl]
    rw [Bool.and_eq_true] at h
    obtain ⟨⟨c1, c2⟩, ⟨n1, n2⟩, ⟨_, _⟩, ⟨_, _⟩, _, _⟩ := cfgB_true.1 h.1
    obtain ⟨b1, b2⟩ := prod_bounds c1 c2 n1 n2
    obtain ⟨b4, b5, _⟩ := budget_bounds c1 c2 n1 n2
    have b7 : 8 ≤ bud C N := b4
    have b8 : bud C N ≤ 1152 := b5
    obtain ⟨o1, o2⟩ := occB_true.1 h.2
    have HC := Lib.hid h.1
    clear h b4 b5
    go_enter Try.func24, Try.ntmps24
    go_wp2_with (first | (go_at_call 37; refine (refOcc_val _ H.out).mono ?_; rintro e w1 ⟨rfl, hb1⟩; obtain ⟨hc1, hf1⟩ := bcell hb1) | (go_at_call 28; refine (refBudget_ok _ _ _ _ _ _ HC.out).mono ?_; rintro e w2 ⟨rfl, hb2⟩))
    all_goals
      go_ret2
      exact ⟨ri2 (by unfold slk; omega) rfl, by (repeat (first | exact Below.refl _ _ | (refine below_new ?_ (Nat.le_refl _) _) | (refine below_drewN ?_ _) | (refine Below.drew ?_) | (refine below_call (by assumption) ?_ (Nat.le_refl _)) | (refine below_set ?_ (by simp) _)))⟩

set_option maxHeartbeats 1000000 in
theorem refCars (C N S K Q o : Int) (w : World) : Calls Try.prog 26 #[.agg #[.int .i64 C, .int .i64 N, .int .i64 S, .int .i64 K, .int .i64 Q], .int .i64 o] w (Ret (.tuple #[.int .i64 (carsN C N S K Q o), .int .i64 (occE C N S K Q o)]) w) := by
  cases h : (cfgB C N S K Q && occB C N S o)
  · have H : Hid (occE C N S K Q o = 7) := occE_no h
    rw [occE_no h, show carsN C N S K Q o = 0 by unfold carsN; rw [h]; rfl]
    clear h
    go_enter Try.func26, Try.ntmps26
    go_wp2_with (first | (go_at_call 37; refine (refOcc_val _ H.out).mono ?_; rintro e w1 ⟨rfl, hb1⟩; obtain ⟨hc1, hf1⟩ := bcell hb1))
    go_ret2
    exact ⟨rfl, by (repeat (first | exact Below.refl _ _ | (refine below_new ?_ (Nat.le_refl _) _) | (refine below_drewN ?_ _) | (refine Below.drew ?_) | (refine below_call (by assumption) ?_ (Nat.le_refl _)) | (refine below_set ?_ (by simp) _)))⟩
  · have H : Hid (occE C N S K Q o = 0) := occE_ok h
    rw [occE_ok h, show carsN C N S K Q o = 2 * o / C + 5 by unfold carsN; rw [h]; rfl]
    rw [Bool.and_eq_true] at h
    obtain ⟨⟨c1, c2⟩, ⟨n1, n2⟩, ⟨_, _⟩, ⟨_, _⟩, _, _⟩ := cfgB_true.1 h.1
    obtain ⟨b1, b2⟩ := prod_bounds c1 c2 n1 n2
    obtain ⟨o1, o2⟩ := occB_true.1 h.2
    have d1 : 0 ≤ 2 * o / C := Int.ediv_nonneg (by omega) (by omega)
    have d2 : 2 * o / C ≤ 2 * o := Int.ediv_le_self _ (by omega)
    have c0 : (C == 0) = false := by simp; omega
    clear h
    go_enter Try.func26, Try.ntmps26
    go_wp2_with (first | (go_at_call 37; refine (refOcc_val _ H.out).mono ?_; rintro e w1 ⟨rfl, hb1⟩; obtain ⟨hc1, hf1⟩ := bcell hb1))
    go_ret2
    exact ⟨rfl, by (repeat (first | exact Below.refl _ _ | (refine below_new ?_ (Nat.le_refl _) _) | (refine below_drewN ?_ _) | (refine Below.drew ?_) | (refine below_call (by assumption) ?_ (Nat.le_refl _)) | (refine below_set ?_ (by simp) _)))⟩
end Go.Proofs.Ytohlaginanbclaa
