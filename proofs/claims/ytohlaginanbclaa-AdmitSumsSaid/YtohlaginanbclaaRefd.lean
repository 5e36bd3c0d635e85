/-
  Walks of the reference of the layer admit: Most, Run.
-/
import Derived.Test.YtohlaginanbclaaRefb
import Derived.Test.YtohlaginanbclaaAwake
import Derived.Test.YtohlaginanbclaaPlain5
import Derived.RegionTactic
import Derived.BigQuiet
import Derived.Deep.QuietTactic
namespace Go.Proofs.Ytohlaginanbclaa
open Go.RowKit

/-- A config that was boxed at the call's own first block, and what was there before the call. -/
def Cfg1 (w0 : World) (C N S K Q : Int) (w : World) : Prop := Five w0.heap.size C N S K Q w ∧ Below w0.heap.size w0 w
theorem cfg1_start {w0 : World} {C N S K Q : Int} : Cfg1 w0 C N S K Q (w0.alloc (.cells #[.int .i64 C, .int .i64 N, .int .i64 S, .int .i64 K, .int .i64 Q] 23)) :=
  ⟨⟨⟨by simp, by simp, by simp, by simp, by simp⟩, by simp⟩, below_new (Below.refl _ _) (Nat.le_refl _) _⟩
theorem cfg1_call {w0 W w1 : World} {C N S K Q : Int} (hb : Below W.heap.size W w1) (h : Cfg1 w0 C N S K Q W) : Cfg1 w0 C N S K Q w1 := ⟨five_call hb h.1, below_call hb h.2 (Nat.le_refl _)⟩
theorem cfg1_drewN {w0 W : World} {C N S K Q : Int} (n : Nat) (h : Cfg1 w0 C N S K Q W) : Cfg1 w0 C N S K Q (W.drewN n) := by
  obtain ⟨⟨⟨h0, h1, h2, h3, h4⟩, hz⟩, hb⟩ := h
  exact ⟨⟨⟨h0, h1, h2, h3, h4⟩, hz⟩, below_drewN hb n⟩
theorem cfg1_drew {w0 W : World} {C N S K Q : Int} (h : Cfg1 w0 C N S K Q W) : Cfg1 w0 C N S K Q W.drew := by
  obtain ⟨⟨⟨h0, h1, h2, h3, h4⟩, hz⟩, hb⟩ := h
  exact ⟨⟨⟨h0, h1, h2, h3, h4⟩, hz⟩, hb.drew⟩

set_option maxHeartbeats 2000000 in
theorem refMost_yes (C N S K Q o l : Int) (w : World) (hc : cfgB C N S K Q = true) (hs : stB C N S o l = true) :
    Calls Try.prog 23 #[.agg #[.int .i64 C, .int .i64 N, .int .i64 S, .int .i64 K, .int .i64 Q], .int .i64 o, .int .i64 l] w (Ret (.tuple #[.int .i64 (mostN C N S K Q o l), .int .i64 0]) w) := by
  have hlb := larg_bounds (cfgB_true.1 hc)
  have hsl := slk_nonneg C N o
  have hl0 : 0 ≤ l := (stB_true.1 hs).2.1
  have H0 := Lib.hid (chkE_ok hc hs)
  have HM := Lib.hid (mostN_ok hc hs)
  have HC := Lib.hid hc
  have HS := Lib.hid hs
  clear hc hs
  go_enter Try.func23, Try.ntmps23
  go_wp2_with fail
  refine (refChk_val _ H0.out).mono ?_
  rintro e w1 ⟨rfl, hb1⟩
  have G1 := Lib.hid (cfg1_call hb1 cfg1_start)
  obtain ⟨⟨⟨q0, q1, q2, q3, q4⟩, qz⟩, qb⟩ := G1.out
  clear hb1
  go_wp2_with fail
  refine (refLargest_ok _ _ _ _ _ _ HC.out).mono ?_
  rintro e w2 ⟨rfl, hb2⟩
  have G2 := Lib.hid (cfg1_call hb2 G1.out)
  clear hb2 q0 q1 q2 q3 q4 qz qb G1
  go_wp2_with fail
  go_loopw [9] (fun i wr => ∃ k : Int, (0 ≤ k ∧ k ≤ larg C S ∧ min (min (larg C S) l) (slk C N o) ≤ k) ∧ i = .int .i64 k ∧ Hid (Cfg1 w C N S K Q wr)) (fun i _ => (intOf i).toNat)
  case atStart => exact ⟨_, ⟨by omega, by omega, by omega⟩, rfl, G2⟩
  case round =>
    obtain ⟨k, ⟨k1, k2, k3⟩, rfl, G3⟩ := hrel
    obtain ⟨⟨⟨p0, p1, p2, p3, p4⟩, pz⟩, pb⟩ := G3.out
    clear G2
    by_cases hk : 0 < k
    · cases hq : lackB C N o l k
      · have HK : Hid (lackB C N o l k = !true) := hq
        clear hq
        go_wp2_with fail
        refine (refAdmitted_val _ HC.out HS.out (by omega) (by omega) HK.out).mono ?_
        rintro e w4 ⟨rfl, hb4⟩
        go_wp2
        go_ret2
        exact ⟨ri2 (by rw [HM.out]; exact most_stop k3 k2 HK.out) rfl, below_call hb4 pb (Nat.le_refl _)⟩
      · have HK : Hid (lackB C N o l k = !false) := hq
        clear hq
        go_wp2_with fail
        refine (refAdmitted_val _ HC.out HS.out (by omega) (by omega) HK.out).mono ?_
        rintro e w4 ⟨rfl, hb4⟩
        have G4 := Lib.hid (cfg1_call hb4 G3.out)
        have k4 := most_next k3 HK.out
        go_wp2
        exact ⟨⟨k - 1, ⟨by omega, by omega, k4⟩, rfl, G4⟩, by simp [intOf]; omega⟩
    · go_wp2
      go_ret2
      exact ⟨ri2 (by rw [HM.out]; omega) rfl, pb⟩

set_option maxHeartbeats 400000 in
theorem refMost_no (C N S K Q o l : Int) (w : World) (h : (cfgB C N S K Q && stB C N S o l) = false) :
    Calls Try.prog 23 #[.agg #[.int .i64 C, .int .i64 N, .int .i64 S, .int .i64 K, .int .i64 Q], .int .i64 o, .int .i64 l] w (Ret (.tuple #[.int .i64 0, .int .i64 7]) w) := by
  have H0 := Lib.hid (chkE_no h)
  clear h
  go_enter Try.func23, Try.ntmps23
  go_wp2_with (first | (go_at_call 21; refine (refChk_val _ H0.out).mono ?_; rintro e w1 ⟨rfl, hb1⟩))
  go_ret2
  exact ⟨rfl, by (repeat (first | exact Below.refl _ _ | (refine below_new ?_ (Nat.le_refl _) _) | (refine below_drewN ?_ _) | (refine Below.drew ?_) | (refine below_call (by assumption) ?_ (Nat.le_refl _)) | (refine below_set ?_ (by simp) _)))⟩

theorem refMost (C N S K Q o l : Int) (w : World) :
    Calls Try.prog 23 #[.agg #[.int .i64 C, .int .i64 N, .int .i64 S, .int .i64 K, .int .i64 Q], .int .i64 o, .int .i64 l] w (Ret (.tuple #[.int .i64 (mostN C N S K Q o l), .int .i64 (chkE C N S K Q o l)]) w) := by
  cases h : (cfgB C N S K Q && stB C N S o l)
  · rw [mostN_no h, chkE_no h]; exact refMost_no C N S K Q o l w h
  · rw [Bool.and_eq_true] at h
    rw [chkE_ok h.1 h.2]
    exact refMost_yes C N S K Q o l w h.1 h.2
end Go.Proofs.Ytohlaginanbclaa
