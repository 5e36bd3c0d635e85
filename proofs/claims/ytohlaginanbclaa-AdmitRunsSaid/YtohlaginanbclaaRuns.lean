/-
  Every run of AdmitRuns answers true, whatever the config, the state and the list, and leaves what was there as it was: its walk, out of the contracts of the program and of the reference.
-/
import Derived.Test.YtohlaginanbclaaList
namespace Go.Proofs.Ytohlaginanbclaa
open Go.ChangeShapes Go.WideShapes Go.ChangeAt Go.RowKit

set_option maxHeartbeats 1000000 in
theorem runs_walk_far (C N S K Q o l : Int) (zs : List Int) (a : Option Addr) (cap : Nat) (w : World) (h : (60 < zs.length ∧ zs.length ≤ 200) ∨ 205 < zs.length) : Calls Try.prog 3 #[.agg #[.int .i64 C, .int .i64 N, .int .i64 S, .int .i64 K, .int .i64 Q], .agg #[.int .i64 o, .int .i64 l], .slice a zs.length cap] w (Ret (.bool true) w) := by
  have h' : (60 < zs.length ∧ zs.length ≤ 200) ∨ (¬ (zs.length ≤ 200) ∧ 60 < zs.length ∧ 205 < zs.length) := by omega
  clear h
  rcases h' with ⟨h1, h2⟩ | ⟨h1, h2, h3⟩
  · go_enter Try.func3, Try.ntmps3
    go_wp2_with fail
    refine (awake_any _).mono ?_
    rintro e w1 ⟨rfl, hb1⟩
    have G1 := Lib.hid (args_call hb1 args_start)
    obtain ⟨q0, q1, q2, q3, q4, q5, q6, qz, qb⟩ := G1.out
    clear hb1
    go_wp2
    go_ret
    exact ⟨rfl, qb⟩
  · go_enter Try.func3, Try.ntmps3
    go_wp2_with fail
    refine (awake_any _).mono ?_
    rintro e w1 ⟨rfl, hb1⟩
    have G1 := Lib.hid (args_call hb1 args_start)
    obtain ⟨q0, q1, q2, q3, q4, q5, q6, qz, qb⟩ := G1.out
    clear hb1
    go_wp2
    go_ret
    exact ⟨rfl, qb⟩

set_option maxHeartbeats 2000000 in
theorem runs_walk_near (C N S K Q o l : Int) (zs : List Int) (a : Option Addr) (cap : Nat) (w : World) (hv : IntsAt w (.slice a zs.length cap) zs) (h : ¬ ((60 < zs.length ∧ zs.length ≤ 200) ∨ 205 < zs.length)) : Calls Try.prog 3 #[.agg #[.int .i64 C, .int .i64 N, .int .i64 S, .int .i64 K, .int .i64 Q], .agg #[.int .i64 o, .int .i64 l], .slice a zs.length cap] w (Ret (.bool true) w) := by
  have HV := Lib.hid hv
  have h' : (¬ 60 < zs.length ∧ ¬ 205 < zs.length) ∨ (60 < zs.length ∧ ¬ (zs.length ≤ 200) ∧ ¬ 205 < zs.length) := by omega
  clear h hv
  rcases h' with ⟨h1, h2⟩ | ⟨h1, h2, h3⟩
  · go_enter Try.func3, Try.ntmps3
    go_wp2_with fail
    refine (run_all _ _ _ _ _ _ _ zs _ _ (ints_below (args_below args_start) rfl HV.out)).mono ?_
    rintro e w1 ⟨rfl, hb1⟩
    have G1 := Lib.hid (args_call hb1 args_start)
    obtain ⟨q0, q1, q2, q3, q4, q5, q6, qz, qb⟩ := G1.out
    clear hb1
    go_wp2_with fail
    refine (refRun_all _ _ _ _ _ _ _ zs _ _ (ints_below (args_below G1.out) rfl HV.out)).mono ?_
    rintro e w2 ⟨rfl, hb2⟩
    have G2 := Lib.hid (args_call hb2 G1.out)
    obtain ⟨p0, p1, p2, p3, p4, p5, p6, pz, pb⟩ := G2.out
    clear hb2 q0 q1 q2 q3 q4 q5 q6 qz qb
    go_wp2_with fail
    refine (awake_any _).mono ?_
    rintro e w3 ⟨rfl, hb3⟩
    have G3 := Lib.hid (args_call hb3 G2.out)
    obtain ⟨q0, q1, q2, q3, q4, q5, q6, qz, qb⟩ := G3.out
    clear hb3 p0 p1 p2 p3 p4 p5 p6 pz pb
    go_wp2
    go_ret
    exact ⟨rfl, qb⟩
  · go_enter Try.func3, Try.ntmps3
    go_wp2_with fail
    refine (run_all _ _ _ _ _ _ _ zs _ _ (ints_below (args_below args_start) rfl HV.out)).mono ?_
    rintro e w1 ⟨rfl, hb1⟩
    have G1 := Lib.hid (args_call hb1 args_start)
    obtain ⟨q0, q1, q2, q3, q4, q5, q6, qz, qb⟩ := G1.out
    clear hb1
    go_wp2_with fail
    refine (refRun_all _ _ _ _ _ _ _ zs _ _ (ints_below (args_below G1.out) rfl HV.out)).mono ?_
    rintro e w2 ⟨rfl, hb2⟩
    have G2 := Lib.hid (args_call hb2 G1.out)
    obtain ⟨p0, p1, p2, p3, p4, p5, p6, pz, pb⟩ := G2.out
    clear hb2 q0 q1 q2 q3 q4 q5 q6 qz qb
    go_wp2_with fail
    refine (awake_any _).mono ?_
    rintro e w3 ⟨rfl, hb3⟩
    have G3 := Lib.hid (args_call hb3 G2.out)
    obtain ⟨q0, q1, q2, q3, q4, q5, q6, qz, qb⟩ := G3.out
    clear hb3 p0 p1 p2 p3 p4 p5 p6 pz pb
    go_wp2
    go_ret
    exact ⟨rfl, qb⟩

theorem runs_walk (C N S K Q o l : Int) (zs : List Int) (v : Value) (w : World) (hv : IntsAt w v zs) : Calls Try.prog 3 #[.agg #[.int .i64 C, .int .i64 N, .int .i64 S, .int .i64 K, .int .i64 Q], .agg #[.int .i64 o, .int .i64 l], v] w (Ret (.bool true) w) := by
  obtain ⟨a, cap, rfl⟩ := ints_slice hv
  by_cases h : (60 < zs.length ∧ zs.length ≤ 200) ∨ 205 < zs.length
  · exact runs_walk_far C N S K Q o l zs a cap w h
  · exact runs_walk_near C N S K Q o l zs a cap w hv h

set_option maxRecDepth 100000 in
theorem admitRuns_lifted (os : Os) (started : os.Started) (H : Type) (enc : TypeId × Value → H) :
    ReturnsInHanded {} Try.checked os 3 .any (Rows.admitRunsSpec.pre6 enc Try.prog Try.f3 Rows.admitRunsRow.domain false) (Rows.admitRunsSpec.post enc Try.prog Try.f3 false true false false) := by
  refine returnsInHanded_of_change (C := Try.checked) own started (by kernel_rfl) Try.func3
    (ChangeSpec.witness6 (enc := enc) (C := Try.checked) false ⟨#[], #[.agg #[.int .i64 0, .int .i64 0, .int .i64 0, .int .i64 0, .int .i64 0], .agg #[.int .i64 0, .int .i64 0], .slice none 0 0], []⟩ 8 (by kernel_rfl) (by kernel_rfl) (by kernel_rfl) (by kernel_rfl)) ?_
  intro W base args ds gs before hval0 hW hcnd _
  have hval : ∀ (j : Nat) t v, Try.f3.params[j]? = some t → args[j]? = some v → Value.okWide Try.prog W .any base t v := hval0
  have hW' := hW
  obtain ⟨p, q, hA0, hV, rfl, hfz, hnd⟩ := hW
  have hA : DataW.TrodAll enc Try.prog W 0 (fun _ => true) true Try.f3.params.toList args.toList ds p := hA0
  obtain ⟨rfl, rfl⟩ := trodVars_none hV
  obtain ⟨v0, v1, v2, d0, d1, d2, p0, p1, p2, rfl, rfl, t0, t1, t2, k0, k1, k2⟩ := law3 Try.params3 hA hval
  obtain ⟨C, N, S, K, Q, rfl⟩ := open_cfg k0 t0
  obtain ⟨o, l, rfl⟩ := open_st k1 t1
  obtain ⟨zs, hzs⟩ := open_list k2 t2
  refine (runs_walk C N S K Q o l zs _ W hzs).mono fun e W' ⟨he, hb⟩ => ?_
  subst he
  exact ⟨_, rfl, law_post laidOut (by kernel_rfl) rfl (by kernel_rfl) Try.underlying4 hW' rfl rfl rfl hb⟩

theorem admitRuns_over : Rows.admitRunsRow.holds Try.pinned (OpenSpec.ofChange Rows.admitRunsSpec) :=
  OpenClaim.holds_of_wide 3 Try.f3 rfl rfl rfl rfl rfl rfl rfl ⟨rfl, rfl, rfl, rfl, rfl⟩ rfl rfl rfl rfl rfl (by kernel_rfl) Try.func3 (by kernel_rfl)
    (of_decide_eq_true (by kernel_rfl)) (by unfold Func.isWrapper; first | (rw [if_pos (by decide +kernel)]; kernel_rfl) | (rw [if_neg (by decide +kernel)]; exact ⟨rfl, rfl⟩))
    (fun os started H enc _ => admitRuns_lifted os started H enc)

theorem admitRuns_holds : Rows.AdmitRunsSaid := admitRuns_over
#print axioms admitRuns_holds
end Go.Proofs.Ytohlaginanbclaa
