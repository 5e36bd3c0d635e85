/-
  Every run of AdmitMost answers true, whatever the config and the state, and leaves what was there as it was: its walk, out of the contracts of the program and of the reference.
-/
import Derived.Test.YtohlaginanbclaaArgs
import Derived.Test.YtohlaginanbclaaPlain4
namespace Go.Proofs.Ytohlaginanbclaa
open Go.ChangeShapes Go.WideShapes Go.ChangeAt Go.RowKit

set_option maxHeartbeats 1000000 in
theorem most_walk_no (C N S K Q o l : Int) (w : World) (h : (cfgB C N S K Q && stB C N S o l) = false) : Calls Try.prog 5 #[.agg #[.int .i64 C, .int .i64 N, .int .i64 S, .int .i64 K, .int .i64 Q], .agg #[.int .i64 o, .int .i64 l]] w (Ret (.bool true) w) := by
  have H1 := Lib.hid (mostN_no h)
  have H2 := Lib.hid (chkE_no h)
  clear h
  go_enter Try.func5, Try.ntmps5
  go_wp2_with fail
  refine (most_at _ H1.out H2.out).mono ?_
  rintro e w1 ⟨rfl, hb1⟩
  have G1 := Lib.hid (args_call hb1 args_start)
  obtain ⟨q0, q1, q2, q3, q4, q5, q6, qz, qb⟩ := G1.out
  clear hb1
  go_wp2_with fail
  refine (awake_any _).mono ?_
  rintro e w2 ⟨rfl, hb2⟩
  have G2 := Lib.hid (args_call hb2 G1.out)
  obtain ⟨p0, p1, p2, p3, p4, p5, p6, pz, pb⟩ := G2.out
  clear hb2 q0 q1 q2 q3 q4 q5 q6 qz qb
  go_wp2
  go_ret
  exact ⟨rfl, pb⟩

set_option maxHeartbeats 4000000 in
theorem most_walk_1 (C N S K Q o l : Int) (w : World) (hc : cfgB C N S K Q = true) (hs : stB C N S o l = true) (h1 : larg C S ≤ l) (h2 : larg C S ≤ slk C N o) : Calls Try.prog 5 #[.agg #[.int .i64 C, .int .i64 N, .int .i64 S, .int .i64 K, .int .i64 Q], .agg #[.int .i64 o, .int .i64 l]] w (Ret (.bool true) w) := by
  have hlb := larg_bounds (cfgB_true.1 hc)
  have hsl := slk_nonneg C N o
  have hl0 : 0 ≤ l := (stB_true.1 hs).2.1
  have hls : l ≤ 64 := by have := (stB_true.1 hs).2.2.1; have := (cfgB_true.1 hc).2.2.1; omega
  have H1 : Hid (mostN C N S K Q o l = larg C S) := (mostN_ok hc hs).trans (by omega)
  have H2 := Lib.hid (chkE_ok hc hs)
  have ho : (cfgB C N S K Q && occB C N S o) = true := by rw [hc, occ_of_st hs]; rfl
  have H3 := Lib.hid (occE_ok ho)
  have H4 : Hid (slackN C N S K Q o = slk C N o) := by unfold slackN; rw [ho]; rfl
  have H5 : Hid (admE C N S K Q o l (larg C S) = 0) := adm_is0 hc hs (by omega) (by omega) (by omega) (by omega)
  have t0 : 0 < larg C S := by omega
  have H6 : Hid (admE C N S K Q o l (larg C S + 1) = 11) := adm_is11 hc hs (by omega) (by omega)
  have HC := Lib.hid hc
  clear hc hs ho
  go_enter Try.func5, Try.ntmps5
  go_wp2_with fail
  refine (most_at _ H1.out H2.out).mono ?_
  rintro e w1 ⟨rfl, hb1⟩
  have G1 := Lib.hid (args_call hb1 args_start)
  obtain ⟨q0, q1, q2, q3, q4, q5, q6, qz, qb⟩ := G1.out
  clear hb1
  go_wp2_with fail
  refine (refLargest_ok _ _ _ _ _ _ HC.out).mono ?_
  rintro e w2 ⟨rfl, hb2⟩
  have G2 := Lib.hid (args_call hb2 G1.out)
  obtain ⟨p0, p1, p2, p3, p4, p5, p6, pz, pb⟩ := G2.out
  clear hb2 q0 q1 q2 q3 q4 q5 q6 qz qb
  go_wp2_with fail
  refine (slack_at _ H4.out H3.out).mono ?_
  rintro e w3 ⟨rfl, hb3⟩
  have G3 := Lib.hid (args_call hb3 G2.out)
  obtain ⟨q0, q1, q2, q3, q4, q5, q6, qz, qb⟩ := G3.out
  clear hb3 p0 p1 p2 p3 p4 p5 p6 pz pb
  go_wp2_with fail
  refine (adm_at 0 1 0 _ H5.out rfl rfl).mono ?_
  rintro e w4 ⟨rfl, hb4⟩
  have G4 := Lib.hid (args_call hb4 G3.out)
  obtain ⟨p0, p1, p2, p3, p4, p5, p6, pz, pb⟩ := G4.out
  clear hb4 q0 q1 q2 q3 q4 q5 q6 qz qb
  go_wp2_with fail
  refine (adm_at 11 0 11 _ H6.out rfl rfl).mono ?_
  rintro e w5 ⟨rfl, hb5⟩
  have G5 := Lib.hid (args_call hb5 G4.out)
  obtain ⟨q0, q1, q2, q3, q4, q5, q6, qz, qb⟩ := G5.out
  clear hb5 p0 p1 p2 p3 p4 p5 p6 pz pb
  go_wp2_with fail
  refine (awake_any _).mono ?_
  rintro e w6 ⟨rfl, hb6⟩
  have G6 := Lib.hid (args_call hb6 G5.out)
  obtain ⟨p0, p1, p2, p3, p4, p5, p6, pz, pb⟩ := G6.out
  clear hb6 q0 q1 q2 q3 q4 q5 q6 qz qb
  go_wp2
  go_ret
  exact ⟨rfl, pb⟩

set_option maxHeartbeats 4000000 in
theorem most_walk_2 (C N S K Q o l : Int) (w : World) (hc : cfgB C N S K Q = true) (hs : stB C N S o l = true) (h1 : l < larg C S) (h2 : l ≤ slk C N o) (h3 : 1 ≤ l) : Calls Try.prog 5 #[.agg #[.int .i64 C, .int .i64 N, .int .i64 S, .int .i64 K, .int .i64 Q], .agg #[.int .i64 o, .int .i64 l]] w (Ret (.bool true) w) := by
  have hlb := larg_bounds (cfgB_true.1 hc)
  have hsl := slk_nonneg C N o
  have hl0 : 0 ≤ l := (stB_true.1 hs).2.1
  have hls : l ≤ 64 := by have := (stB_true.1 hs).2.2.1; have := (cfgB_true.1 hc).2.2.1; omega
  have H1 : Hid (mostN C N S K Q o l = l) := (mostN_ok hc hs).trans (by omega)
  have H2 := Lib.hid (chkE_ok hc hs)
  have ho : (cfgB C N S K Q && occB C N S o) = true := by rw [hc, occ_of_st hs]; rfl
  have H3 := Lib.hid (occE_ok ho)
  have H4 : Hid (slackN C N S K Q o = slk C N o) := by unfold slackN; rw [ho]; rfl
  have H5 : Hid (admE C N S K Q o l (l) = 0) := adm_is0 hc hs (by omega) (by omega) (by omega) (by omega)
  have t0 : 0 < l := by omega
  have H6 : Hid (admE C N S K Q o l (l + 1) = 5) := adm_is5 hc hs (by omega) (by omega) (by omega)
  have b1 : (l == larg C S) = false := by simp; omega
  have HC := Lib.hid hc
  clear hc hs ho
  go_enter Try.func5, Try.ntmps5
  go_wp2_with fail
  refine (most_at _ H1.out H2.out).mono ?_
  rintro e w1 ⟨rfl, hb1⟩
  have G1 := Lib.hid (args_call hb1 args_start)
  obtain ⟨q0, q1, q2, q3, q4, q5, q6, qz, qb⟩ := G1.out
  clear hb1
  go_wp2_with fail
  refine (refLargest_ok _ _ _ _ _ _ HC.out).mono ?_
  rintro e w2 ⟨rfl, hb2⟩
  have G2 := Lib.hid (args_call hb2 G1.out)
  obtain ⟨p0, p1, p2, p3, p4, p5, p6, pz, pb⟩ := G2.out
  clear hb2 q0 q1 q2 q3 q4 q5 q6 qz qb
  go_wp2_with fail
  refine (slack_at _ H4.out H3.out).mono ?_
  rintro e w3 ⟨rfl, hb3⟩
  have G3 := Lib.hid (args_call hb3 G2.out)
  obtain ⟨q0, q1, q2, q3, q4, q5, q6, qz, qb⟩ := G3.out
  clear hb3 p0 p1 p2 p3 p4 p5 p6 pz pb
  go_wp2_with fail
  refine (adm_at 0 1 0 _ H5.out rfl rfl).mono ?_
  rintro e w4 ⟨rfl, hb4⟩
  have G4 := Lib.hid (args_call hb4 G3.out)
  obtain ⟨p0, p1, p2, p3, p4, p5, p6, pz, pb⟩ := G4.out
  clear hb4 q0 q1 q2 q3 q4 q5 q6 qz qb
  go_wp2_with fail
  refine (adm_at 5 2 0 _ H6.out rfl rfl).mono ?_
  rintro e w5 ⟨rfl, hb5⟩
  have G5 := Lib.hid (args_call hb5 G4.out)
  obtain ⟨q0, q1, q2, q3, q4, q5, q6, qz, qb⟩ := G5.out
  clear hb5 p0 p1 p2 p3 p4 p5 p6 pz pb
  go_wp2_with fail
  refine (awake_any _).mono ?_
  rintro e w6 ⟨rfl, hb6⟩
  have G6 := Lib.hid (args_call hb6 G5.out)
  obtain ⟨p0, p1, p2, p3, p4, p5, p6, pz, pb⟩ := G6.out
  clear hb6 q0 q1 q2 q3 q4 q5 q6 qz qb
  go_wp2
  go_ret
  exact ⟨rfl, pb⟩

set_option maxHeartbeats 4000000 in
theorem most_walk_3 (C N S K Q o l : Int) (w : World) (hc : cfgB C N S K Q = true) (hs : stB C N S o l = true) (h1 : l < larg C S) (h2 : l ≤ slk C N o) (h3 : l ≤ 0) : Calls Try.prog 5 #[.agg #[.int .i64 C, .int .i64 N, .int .i64 S, .int .i64 K, .int .i64 Q], .agg #[.int .i64 o, .int .i64 l]] w (Ret (.bool true) w) := by
  have hlb := larg_bounds (cfgB_true.1 hc)
  have hsl := slk_nonneg C N o
  have hl0 : 0 ≤ l := (stB_true.1 hs).2.1
  have hls : l ≤ 64 := by have := (stB_true.1 hs).2.2.1; have := (cfgB_true.1 hc).2.2.1; omega
  have H1 : Hid (mostN C N S K Q o l = l) := (mostN_ok hc hs).trans (by omega)
  have H2 := Lib.hid (chkE_ok hc hs)
  have ho : (cfgB C N S K Q && occB C N S o) = true := by rw [hc, occ_of_st hs]; rfl
  have H3 := Lib.hid (occE_ok ho)
  have H4 : Hid (slackN C N S K Q o = slk C N o) := by unfold slackN; rw [ho]; rfl
  have t0 : ¬ 0 < l := by omega
  have H6 : Hid (admE C N S K Q o l (l + 1) = 5) := adm_is5 hc hs (by omega) (by omega) (by omega)
  have b1 : (l == larg C S) = false := by simp; omega
  have HC := Lib.hid hc
  clear hc hs ho
  go_enter Try.func5, Try.ntmps5
  go_wp2_with fail
  refine (most_at _ H1.out H2.out).mono ?_
  rintro e w1 ⟨rfl, hb1⟩
  have G1 := Lib.hid (args_call hb1 args_start)
  obtain ⟨q0, q1, q2, q3, q4, q5, q6, qz, qb⟩ := G1.out
  clear hb1
  go_wp2_with fail
  refine (refLargest_ok _ _ _ _ _ _ HC.out).mono ?_
  rintro e w2 ⟨rfl, hb2⟩
  have G2 := Lib.hid (args_call hb2 G1.out)
  obtain ⟨p0, p1, p2, p3, p4, p5, p6, pz, pb⟩ := G2.out
  clear hb2 q0 q1 q2 q3 q4 q5 q6 qz qb
  go_wp2_with fail
  refine (slack_at _ H4.out H3.out).mono ?_
  rintro e w3 ⟨rfl, hb3⟩
  have G3 := Lib.hid (args_call hb3 G2.out)
  obtain ⟨q0, q1, q2, q3, q4, q5, q6, qz, qb⟩ := G3.out
  clear hb3 p0 p1 p2 p3 p4 p5 p6 pz pb
  go_wp2_with fail
  refine (adm_at 5 2 0 _ H6.out rfl rfl).mono ?_
  rintro e w4 ⟨rfl, hb4⟩
  have G4 := Lib.hid (args_call hb4 G3.out)
  obtain ⟨p0, p1, p2, p3, p4, p5, p6, pz, pb⟩ := G4.out
  clear hb4 q0 q1 q2 q3 q4 q5 q6 qz qb
  go_wp2_with fail
  refine (awake_any _).mono ?_
  rintro e w5 ⟨rfl, hb5⟩
  have G5 := Lib.hid (args_call hb5 G4.out)
  obtain ⟨q0, q1, q2, q3, q4, q5, q6, qz, qb⟩ := G5.out
  clear hb5 p0 p1 p2 p3 p4 p5 p6 pz pb
  go_wp2
  go_ret
  exact ⟨rfl, qb⟩

set_option maxHeartbeats 4000000 in
theorem most_walk_4 (C N S K Q o l : Int) (w : World) (hc : cfgB C N S K Q = true) (hs : stB C N S o l = true) (h1 : slk C N o < larg C S) (h2 : slk C N o < l) (h3 : 1 ≤ slk C N o) : Calls Try.prog 5 #[.agg #[.int .i64 C, .int .i64 N, .int .i64 S, .int .i64 K, .int .i64 Q], .agg #[.int .i64 o, .int .i64 l]] w (Ret (.bool true) w) := by
  have hlb := larg_bounds (cfgB_true.1 hc)
  have hsl := slk_nonneg C N o
  have hl0 : 0 ≤ l := (stB_true.1 hs).2.1
  have hls : l ≤ 64 := by have := (stB_true.1 hs).2.2.1; have := (cfgB_true.1 hc).2.2.1; omega
  have H1 : Hid (mostN C N S K Q o l = slk C N o) := (mostN_ok hc hs).trans (by omega)
  have H2 := Lib.hid (chkE_ok hc hs)
  have ho : (cfgB C N S K Q && occB C N S o) = true := by rw [hc, occ_of_st hs]; rfl
  have H3 := Lib.hid (occE_ok ho)
  have H4 : Hid (slackN C N S K Q o = slk C N o) := by unfold slackN; rw [ho]; rfl
  have H5 : Hid (admE C N S K Q o l (slk C N o) = 0) := adm_is0 hc hs (by omega) (by omega) (by omega) (by omega)
  have t0 : 0 < slk C N o := by omega
  have H6 : Hid (admE C N S K Q o l (slk C N o + 1) = 5) := adm_is5 hc hs (by omega) (by omega) (by omega)
  have b1 : (slk C N o == larg C S) = false := by simp; omega
  have HC := Lib.hid hc
  clear hc hs ho
  go_enter Try.func5, Try.ntmps5
  go_wp2_with fail
  refine (most_at _ H1.out H2.out).mono ?_
  rintro e w1 ⟨rfl, hb1⟩
  have G1 := Lib.hid (args_call hb1 args_start)
  obtain ⟨q0, q1, q2, q3, q4, q5, q6, qz, qb⟩ := G1.out
  clear hb1
  go_wp2_with fail
  refine (refLargest_ok _ _ _ _ _ _ HC.out).mono ?_
  rintro e w2 ⟨rfl, hb2⟩
  have G2 := Lib.hid (args_call hb2 G1.out)
  obtain ⟨p0, p1, p2, p3, p4, p5, p6, pz, pb⟩ := G2.out
  clear hb2 q0 q1 q2 q3 q4 q5 q6 qz qb
  go_wp2_with fail
  refine (slack_at _ H4.out H3.out).mono ?_
  rintro e w3 ⟨rfl, hb3⟩
  have G3 := Lib.hid (args_call hb3 G2.out)
  obtain ⟨q0, q1, q2, q3, q4, q5, q6, qz, qb⟩ := G3.out
  clear hb3 p0 p1 p2 p3 p4 p5 p6 pz pb
  go_wp2_with fail
  refine (adm_at 0 1 0 _ H5.out rfl rfl).mono ?_
  rintro e w4 ⟨rfl, hb4⟩
  have G4 := Lib.hid (args_call hb4 G3.out)
  obtain ⟨p0, p1, p2, p3, p4, p5, p6, pz, pb⟩ := G4.out
  clear hb4 q0 q1 q2 q3 q4 q5 q6 qz qb
  go_wp2_with fail
  refine (adm_at 5 2 0 _ H6.out rfl rfl).mono ?_
  rintro e w5 ⟨rfl, hb5⟩
  have G5 := Lib.hid (args_call hb5 G4.out)
  obtain ⟨q0, q1, q2, q3, q4, q5, q6, qz, qb⟩ := G5.out
  clear hb5 p0 p1 p2 p3 p4 p5 p6 pz pb
  go_wp2_with fail
  refine (awake_any _).mono ?_
  rintro e w6 ⟨rfl, hb6⟩
  have G6 := Lib.hid (args_call hb6 G5.out)
  obtain ⟨p0, p1, p2, p3, p4, p5, p6, pz, pb⟩ := G6.out
  clear hb6 q0 q1 q2 q3 q4 q5 q6 qz qb
  go_wp2
  go_ret
  exact ⟨rfl, pb⟩

set_option maxHeartbeats 4000000 in
theorem most_walk_5 (C N S K Q o l : Int) (w : World) (hc : cfgB C N S K Q = true) (hs : stB C N S o l = true) (h1 : slk C N o < larg C S) (h2 : slk C N o < l) (h3 : slk C N o ≤ 0) : Calls Try.prog 5 #[.agg #[.int .i64 C, .int .i64 N, .int .i64 S, .int .i64 K, .int .i64 Q], .agg #[.int .i64 o, .int .i64 l]] w (Ret (.bool true) w) := by
  have hlb := larg_bounds (cfgB_true.1 hc)
  have hsl := slk_nonneg C N o
  have hl0 : 0 ≤ l := (stB_true.1 hs).2.1
  have hls : l ≤ 64 := by have := (stB_true.1 hs).2.2.1; have := (cfgB_true.1 hc).2.2.1; omega
  have H1 : Hid (mostN C N S K Q o l = slk C N o) := (mostN_ok hc hs).trans (by omega)
  have H2 := Lib.hid (chkE_ok hc hs)
  have ho : (cfgB C N S K Q && occB C N S o) = true := by rw [hc, occ_of_st hs]; rfl
  have H3 := Lib.hid (occE_ok ho)
  have H4 : Hid (slackN C N S K Q o = slk C N o) := by unfold slackN; rw [ho]; rfl
  have t0 : ¬ 0 < slk C N o := by omega
  have H6 : Hid (admE C N S K Q o l (slk C N o + 1) = 5) := adm_is5 hc hs (by omega) (by omega) (by omega)
  have b1 : (slk C N o == larg C S) = false := by simp; omega
  have HC := Lib.hid hc
  clear hc hs ho
  go_enter Try.func5, Try.ntmps5
  go_wp2_with fail
  refine (most_at _ H1.out H2.out).mono ?_
  rintro e w1 ⟨rfl, hb1⟩
  have G1 := Lib.hid (args_call hb1 args_start)
  obtain ⟨q0, q1, q2, q3, q4, q5, q6, qz, qb⟩ := G1.out
  clear hb1
  go_wp2_with fail
  refine (refLargest_ok _ _ _ _ _ _ HC.out).mono ?_
  rintro e w2 ⟨rfl, hb2⟩
  have G2 := Lib.hid (args_call hb2 G1.out)
  obtain ⟨p0, p1, p2, p3, p4, p5, p6, pz, pb⟩ := G2.out
  clear hb2 q0 q1 q2 q3 q4 q5 q6 qz qb
  go_wp2_with fail
  refine (slack_at _ H4.out H3.out).mono ?_
  rintro e w3 ⟨rfl, hb3⟩
  have G3 := Lib.hid (args_call hb3 G2.out)
  obtain ⟨q0, q1, q2, q3, q4, q5, q6, qz, qb⟩ := G3.out
  clear hb3 p0 p1 p2 p3 p4 p5 p6 pz pb
  go_wp2_with fail
  refine (adm_at 5 2 0 _ H6.out rfl rfl).mono ?_
  rintro e w4 ⟨rfl, hb4⟩
  have G4 := Lib.hid (args_call hb4 G3.out)
  obtain ⟨p0, p1, p2, p3, p4, p5, p6, pz, pb⟩ := G4.out
  clear hb4 q0 q1 q2 q3 q4 q5 q6 qz qb
  go_wp2_with fail
  refine (awake_any _).mono ?_
  rintro e w5 ⟨rfl, hb5⟩
  have G5 := Lib.hid (args_call hb5 G4.out)
  obtain ⟨q0, q1, q2, q3, q4, q5, q6, qz, qb⟩ := G5.out
  clear hb5 p0 p1 p2 p3 p4 p5 p6 pz pb
  go_wp2
  go_ret
  exact ⟨rfl, qb⟩

theorem most_walk (C N S K Q o l : Int) (w : World) : Calls Try.prog 5 #[.agg #[.int .i64 C, .int .i64 N, .int .i64 S, .int .i64 K, .int .i64 Q], .agg #[.int .i64 o, .int .i64 l]] w (Ret (.bool true) w) := by
  cases h : (cfgB C N S K Q && stB C N S o l)
  · exact most_walk_no C N S K Q o l w h
  · rw [Bool.and_eq_true] at h
    by_cases a1 : larg C S ≤ l
    · by_cases a2 : larg C S ≤ slk C N o
      · exact most_walk_1 C N S K Q o l w h.1 h.2 a1 a2
      · by_cases a3 : 1 ≤ slk C N o
        · exact most_walk_4 C N S K Q o l w h.1 h.2 (by omega) (by omega) a3
        · exact most_walk_5 C N S K Q o l w h.1 h.2 (by omega) (by omega) (by omega)
    · by_cases a2 : l ≤ slk C N o
      · by_cases a3 : 1 ≤ l
        · exact most_walk_2 C N S K Q o l w h.1 h.2 (by omega) a2 a3
        · exact most_walk_3 C N S K Q o l w h.1 h.2 (by omega) a2 (by omega)
      · by_cases a3 : 1 ≤ slk C N o
        · exact most_walk_4 C N S K Q o l w h.1 h.2 (by omega) (by omega) a3
        · exact most_walk_5 C N S K Q o l w h.1 h.2 (by omega) (by omega) (by omega)

set_option maxRecDepth 100000 in
theorem admitMost_lifted (os : Os) (started : os.Started) (H : Type) (enc : TypeId × Value → H) :
    ReturnsInHanded {} Try.checked os 5 .any (Rows.admitMostSpec.pre6 enc Try.prog Try.f5 Rows.admitMostRow.domain false) (Rows.admitMostSpec.post enc Try.prog Try.f5 false true false false) := by
  refine returnsInHanded_of_change (C := Try.checked) own started (by kernel_rfl) Try.func5
    (ChangeSpec.witness6 (enc := enc) (C := Try.checked) false ⟨#[], #[.agg #[.int .i64 0, .int .i64 0, .int .i64 0, .int .i64 0, .int .i64 0], .agg #[.int .i64 0, .int .i64 0]], []⟩ 8 (by kernel_rfl) (by kernel_rfl) (by kernel_rfl) (by kernel_rfl)) ?_
  intro W base args ds gs before hval0 hW hcnd _
  have hval : ∀ (j : Nat) t v, Try.f5.params[j]? = some t → args[j]? = some v → Value.okWide Try.prog W .any base t v := hval0
  have hW' := hW
  obtain ⟨p, q, hA0, hV, rfl, hfz, hnd⟩ := hW
  have hA : DataW.TrodAll enc Try.prog W 0 (fun _ => true) true Try.f5.params.toList args.toList ds p := hA0
  obtain ⟨rfl, rfl⟩ := trodVars_none hV
  obtain ⟨v0, v1, d0, d1, p0, p1, rfl, rfl, t0, t1, k0, k1⟩ := law2 Try.params5 hA hval
  obtain ⟨C, N, S, K, Q, rfl⟩ := open_cfg k0 t0
  obtain ⟨o, l, rfl⟩ := open_st k1 t1
  refine (most_walk C N S K Q o l W).mono fun e W' ⟨he, hb⟩ => ?_
  subst he
  exact ⟨_, rfl, law_post laidOut (by kernel_rfl) rfl (by kernel_rfl) Try.underlying4 hW' rfl rfl rfl hb⟩

theorem admitMost_over : Rows.admitMostRow.holds Try.pinned (OpenSpec.ofChange Rows.admitMostSpec) :=
  OpenClaim.holds_of_wide 5 Try.f5 rfl rfl rfl rfl rfl rfl rfl ⟨rfl, rfl, rfl, rfl, rfl⟩ rfl rfl rfl rfl rfl (by kernel_rfl) Try.func5 (by kernel_rfl)
    (of_decide_eq_true (by kernel_rfl)) (by unfold Func.isWrapper; first | (rw [if_pos (by decide +kernel)]; kernel_rfl) | (rw [if_neg (by decide +kernel)]; exact ⟨rfl, rfl⟩))
    (fun os started H enc _ => admitMost_lifted os started H enc)

theorem admitMost_holds : Rows.AdmitMostSaid := admitMost_over
#print axioms admitMost_holds
end Go.Proofs.Ytohlaginanbclaa
