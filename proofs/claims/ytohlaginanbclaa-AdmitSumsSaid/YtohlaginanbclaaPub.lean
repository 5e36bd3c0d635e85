/-
  Walks of the layer admit: Check, Admit, After, Most.
-/
import Derived.Test.YtohlaginanbclaaAdm
namespace Go.Proofs.Ytohlaginanbclaa
open Go.RowKit

set_option maxHeartbeats 400000 in
theorem stAdmit_no (C N S K Q o l n : Int) (w : World) (h : (cfgB C N S K Q && stB C N S o l) = false) :
    Calls Try.prog 30 #[.agg #[.int .i64 C, .int .i64 N, .int .i64 S, .int .i64 K, .int .i64 Q, .int .i64 o, .int .i64 l], .int .i64 n] w (Ret (.int .i64 7) w) := by
  have H := Lib.hid h
  clear h
  go_enter Try.func30, Try.ntmps30
  go_wp2_with (first | (go_at_call 29; refine (stCheck_no _ _ _ _ _ _ _ _ H.out).mono ?_; rintro e w1 ⟨rfl, hb1⟩; obtain ⟨hc1, hf1⟩ := bcell hb1))
  go_ret
  exact ⟨rfl, by (repeat (first | exact Below.refl _ _ | (refine below_new ?_ (Nat.le_refl _) _) | (refine below_drewN ?_ _) | (refine Below.drew ?_) | (refine below_call (by assumption) ?_ (Nat.le_refl _)) | (refine below_set ?_ (by simp) _)))⟩

theorem stAdmit (C N S K Q o l n : Int) (w : World) : Calls Try.prog 30 #[.agg #[.int .i64 C, .int .i64 N, .int .i64 S, .int .i64 K, .int .i64 Q, .int .i64 o, .int .i64 l], .int .i64 n] w (Ret (.int .i64 (admE C N S K Q o l n)) w) := by
  cases h : (cfgB C N S K Q && stB C N S o l)
  · rw [admE_no n h]; exact stAdmit_no C N S K Q o l n w h
  · rw [Bool.and_eq_true] at h; exact stAdmit_yes C N S K Q o l n w h.1 h.2
theorem stAdmit_val {C N S K Q o l n x : Int} (w : World) (h : admE C N S K Q o l n = x) : Calls Try.prog 30 #[.agg #[.int .i64 C, .int .i64 N, .int .i64 S, .int .i64 K, .int .i64 Q, .int .i64 o, .int .i64 l], .int .i64 n] w (Ret (.int .i64 x) w) := by
  rw [← h]; exact stAdmit C N S K Q o l n w
theorem stCheck_val {C N S K Q o l x : Int} (w : World) (h : chkE C N S K Q o l = x) : Calls Try.prog 29 #[.agg #[.int .i64 C, .int .i64 N, .int .i64 S, .int .i64 K, .int .i64 Q, .int .i64 o, .int .i64 l]] w (Ret (.int .i64 x) w) := by
  rw [← h]; exact stCheck C N S K Q o l w

set_option maxHeartbeats 400000 in
theorem check_pub (C N S K Q o l : Int) (w : World) :
    Calls Try.prog 20 #[.agg #[.int .i64 C, .int .i64 N, .int .i64 S, .int .i64 K, .int .i64 Q], .int .i64 o, .int .i64 l] w (Ret (.int .i64 (chkE C N S K Q o l)) w) := by
  go_enter Try.func20, Try.ntmps20
  go_wp2_with (first | (go_at_call 29; refine (stCheck _ _ _ _ _ _ _ _).mono ?_; rintro e w1 ⟨rfl, hb1⟩))
  go_ret
  exact ⟨rfl, by (repeat (first | exact Below.refl _ _ | (refine below_new ?_ (Nat.le_refl _) _) | (refine below_drewN ?_ _) | (refine Below.drew ?_) | (refine below_call (by assumption) ?_ (Nat.le_refl _)) | (refine below_set ?_ (by simp) _)))⟩

set_option maxHeartbeats 400000 in
theorem after_pub (C N S K Q o l n : Int) (w : World) :
    Calls Try.prog 15 #[.agg #[.int .i64 C, .int .i64 N, .int .i64 S, .int .i64 K, .int .i64 Q], .int .i64 o, .int .i64 l, .int .i64 n] w (Ret (.int .i64 (admE C N S K Q o l n)) w) := by
  go_enter Try.func15, Try.ntmps15
  go_wp2_with (first | (go_at_call 30; refine (stAdmit _ _ _ _ _ _ _ _ _).mono ?_; rintro e w1 ⟨rfl, hb1⟩))
  go_ret
  exact ⟨rfl, by (repeat (first | exact Below.refl _ _ | (refine below_new ?_ (Nat.le_refl _) _) | (refine below_drewN ?_ _) | (refine Below.drew ?_) | (refine below_call (by assumption) ?_ (Nat.le_refl _)) | (refine below_set ?_ (by simp) _)))⟩

set_option maxHeartbeats 1000000 in
theorem admit_val (C N S K Q o l n x : Int) (w : World) (hx : x = 0 ∨ x = 5 ∨ x = 7 ∨ x = 11) (h : admE C N S K Q o l n = x) :
    Calls Try.prog 14 #[.agg #[.int .i64 C, .int .i64 N, .int .i64 S, .int .i64 K, .int .i64 Q], .int .i64 o, .int .i64 l, .int .i64 n] w (Ret (.tuple #[.int .i64 (kOf x), .int .i64 (rOf x)]) w) := by
  have H := Lib.hid h
  clear h
  have hmf : ∀ (fn : Fn) (first cap : Array Value) (w : World), (Instr.makeFunc fn first cap).run Try.prog w = .ok (.func fn first cap) w := fun _ _ _ _ => rfl
  rcases hx with rfl | rfl | rfl | rfl
  all_goals
    go_enter Try.func14, Try.ntmps14
    go_wp2_with (first | (go_at_call 30; refine (stAdmit_val _ H.out).mono ?_; rintro e w1 ⟨rfl, hb1⟩))
    go_ret2
    exact ⟨rfl, by (repeat (first | exact Below.refl _ _ | (refine below_new ?_ (Nat.le_refl _) _) | (refine below_drewN ?_ _) | (refine Below.drew ?_) | (refine below_call (by assumption) ?_ (Nat.le_refl _)) | (refine below_set ?_ (by simp) _)))⟩
theorem admit_pub (C N S K Q o l n : Int) (w : World) :
    Calls Try.prog 14 #[.agg #[.int .i64 C, .int .i64 N, .int .i64 S, .int .i64 K, .int .i64 Q], .int .i64 o, .int .i64 l, .int .i64 n] w (Ret (.tuple #[.int .i64 (kOf (admE C N S K Q o l n)), .int .i64 (rOf (admE C N S K Q o l n))]) w) :=
  admit_val C N S K Q o l n _ w (admE_cases C N S K Q o l n) rfl

set_option maxHeartbeats 1000000 in
theorem most_yes (C N S K Q o l : Int) (w : World) (hc : cfgB C N S K Q = true) (hs : stB C N S o l = true) :
    Calls Try.prog 16 #[.agg #[.int .i64 C, .int .i64 N, .int .i64 S, .int .i64 K, .int .i64 Q], .int .i64 o, .int .i64 l] w (Ret (.tuple #[.int .i64 (min (min (larg C S) l) (slk C N o)), .int .i64 0]) w) := by
  have HC := Lib.hid hc
  have HS := Lib.hid hs
  have hco := cfgB_true.1 hc
  have hoo : OccOk C N S o := (stB_true.1 hs).1
  clear hc hs
  go_enter Try.func16, Try.ntmps16
  go_wp2_with (first | (go_at_call 29; refine (stCheck_yes _ _ _ _ _ _ _ _ HC.out HS.out).mono ?_; rintro e w1 ⟨rfl, hb1⟩; obtain ⟨hc1, hf1⟩ := bcell hb1)  | (go_at_call 31; refine (largest_ok _ _ _ _ _ _ hco).mono ?_; rintro e w2 ⟨rfl, hb2⟩; obtain ⟨hc2, hf2⟩ := bcell hb2; have hz2 : w.heap.size + 1 < w1.heap.size := (by have := sz_lt hb1; simpa using this); have hz3 : w.heap.size < w1.heap.size := Nat.lt_of_succ_lt hz2)  | (go_at_call 32; refine (stSlack_any _ _ _ _ _ _ _ _ hco hoo).mono ?_; rintro e w3 ⟨rfl, hb3⟩))
  all_goals
    go_ret2
    exact ⟨ri2 (by omega) rfl, by (repeat (first | exact Below.refl _ _ | (refine below_new ?_ (Nat.le_refl _) _) | (refine below_drewN ?_ _) | (refine Below.drew ?_) | (refine below_call (by assumption) ?_ (Nat.le_refl _)) | (refine below_set ?_ (by simp) _)))⟩

set_option maxHeartbeats 400000 in
theorem most_no (C N S K Q o l : Int) (w : World) (h : (cfgB C N S K Q && stB C N S o l) = false) :
    Calls Try.prog 16 #[.agg #[.int .i64 C, .int .i64 N, .int .i64 S, .int .i64 K, .int .i64 Q], .int .i64 o, .int .i64 l] w (Ret (.tuple #[.int .i64 0, .int .i64 7]) w) := by
  have H := Lib.hid h
  clear h
  go_enter Try.func16, Try.ntmps16
  go_wp2_with (first | (go_at_call 29; refine (stCheck_no _ _ _ _ _ _ _ _ H.out).mono ?_; rintro e w1 ⟨rfl, hb1⟩))
  go_ret2
  exact ⟨rfl, by (repeat (first | exact Below.refl _ _ | (refine below_new ?_ (Nat.le_refl _) _) | (refine below_drewN ?_ _) | (refine Below.drew ?_) | (refine below_call (by assumption) ?_ (Nat.le_refl _)) | (refine below_set ?_ (by simp) _)))⟩
theorem most_pub (C N S K Q o l : Int) (w : World) :
    Calls Try.prog 16 #[.agg #[.int .i64 C, .int .i64 N, .int .i64 S, .int .i64 K, .int .i64 Q], .int .i64 o, .int .i64 l] w (Ret (.tuple #[.int .i64 (mostN C N S K Q o l), .int .i64 (chkE C N S K Q o l)]) w) := by
  cases h : (cfgB C N S K Q && stB C N S o l)
  · rw [mostN_no h, chkE_no h]; exact most_no C N S K Q o l w h
  · rw [Bool.and_eq_true] at h; rw [mostN_ok h.1 h.2, chkE_ok h.1 h.2]; exact most_yes C N S K Q o l w h.1 h.2
end Go.Proofs.Ytohlaginanbclaa
